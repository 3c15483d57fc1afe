/- The law of FirstFree. -/
import Derived.Test.YthcglifdbfbkeaaFree
import Derived.Test.YthcglifdbfbkeaaOpenI
set_option linter.unusedVariables false
namespace Go.Proofs.Ythcglifdbfbkeaa
open Go.RowKit

set_option maxHeartbeats 4000000 in
theorem FnExactFirstFree_walk (v0 v1 v2 : Value) (w : World) (i0 : IsI64SS w v0) (i1 : IsI64 w v1) (i2 : IsI64 w v2) :
    Calls Try.prog 6 #[v0, v1, v2] w fun e w' => e = .returned (.bool true) ∧ Below w.heap.size w w' := by
  obtain ⟨A, n, c, rs, rfl, hm, hR, hl⟩ := i0
  obtain ⟨p1, rfl, _⟩ := i1
  obtain ⟨p2, rfl, _⟩ := i2
  have H := Lib.hid hR
  have HL := Lib.hid hl
  clear hR hl
  have m2 := hm
  unfold maxLen at m2
  go_enter Try.func6, Try.ntmps6
  go_wp2_with fail
  refine (szInt64SS_any A c n rs _ w H.out HL.out (by omega) (by omega) hm).mono ?_
  rintro r w1 ⟨q, hq, rfl, hb1⟩
  have b1 := Lib.hid hb1
  have s1 := hb1.size
  clear hb1
  rcases hq with rfl | ⟨q0, q1⟩
  · go_wp2
    go_ret
    exact ⟨rfl, b1.out⟩
  have nn : n + tot rs ≤ 1048576 := by omega
  clear q1
  go_wp2_with fail
  refine (toInt64SS_any A c n rs _ (H.out.next b1.out) nn).mono ?_
  rintro r w2 ⟨rfl, o2, hb2⟩
  have b2 := Lib.hid (below_more b1.out hb2 (Nat.le_refl _))
  have s2 := hb2.size
  have R2 := Lib.hid (o2.reads.all (Nat.le_refl _))
  clear hb2 o2 b1
  go_wp2_with fail
  refine ((FirstFree_s _ _ n rs p1 p2 _ R2.out hm HL.out)).mono ?_
  rintro r w3 ⟨rfl, hb3⟩
  have b3 := Lib.hid (below_more b2.out hb3 (Nat.le_refl _))
  have s3 := hb3.size
  clear hb3 R2 b2
  go_wp2_with fail
  refine (toInt64SS_any A c n rs _ (H.out.next b3.out) nn).mono ?_
  rintro r w4 ⟨rfl, o4, hb4⟩
  have b4 := Lib.hid (below_more b3.out hb4 (Nat.le_refl _))
  have s4 := hb4.size
  have R4 := Lib.hid (o4.reads.all (Nat.le_refl _))
  clear hb4 o4 b3
  go_wp2_with fail
  refine ((FirstFree_i _ _ n rs p1 p2 _ R4.out hm HL.out)).mono ?_
  rintro r w5 ⟨rfl, hb5⟩
  have b5 := Lib.hid (below_more b4.out hb5 (Nat.le_refl _))
  have R5 := Lib.hid (R4.out.next hb5)
  clear hb5 R4 b4
  go_wp2_with fail
  refine (toInt64SS_any A c n rs _ (H.out.next b5.out) nn).mono ?_
  rintro r w6 ⟨rfl, o6, hb6⟩
  have b6 := Lib.hid (below_more b5.out hb6 (Nat.le_refl _))
  have R6 := Lib.hid (o6.reads.all (Nat.le_refl _))
  have R6' := Lib.hid (R5.out.next hb6)
  clear hb6 o6 b5 R5
  go_wp2_with fail
  refine (eqInt64SS_refl _ _ _ _ n rs _ R6'.out R6.out hm HL.out).mono ?_
  rintro r w7 ⟨rfl, hb7⟩
  go_wp2
  go_ret
  exact ⟨rfl, below_more b6.out hb7 (Nat.le_refl _)⟩
end Go.Proofs.Ythcglifdbfbkeaa
