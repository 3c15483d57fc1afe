/- The law of MajorityChance. -/
import Derived.Test.YthmpcpcmmahheaaMajor
import Derived.Test.YthmpcpcmmahheaaOpenI
set_option linter.unusedVariables false
namespace Go.Proofs.Ythmpcpcmmahheaa
open Go.RowKit

set_option maxHeartbeats 4000000 in
theorem FnExactMajorityChance_walk (v0 : Value) (w : World) (i0 : IsI64S w v0) :
    Calls Try.prog 4 #[v0] w fun e w' => e = .returned (.bool true) ∧ Below w.heap.size w w' := by
  obtain ⟨A, n, c, zs, rfl, hm, hR, hz⟩ := i0
  have H := Lib.hid hR
  have HL := Lib.hid hR.len
  have HZ := Lib.hid hz
  clear hR hz
  have m2 := hm
  unfold maxLen at m2
  rcases Nat.lt_or_ge 1048576 n with nn | nn
  · go_enter Try.func4, Try.ntmps4
    go_wp2
    go_ret
    exact ⟨rfl, Below.refl _ _⟩
  have b1 := Lib.hid (Below.refl w.heap.size w)
  go_enter Try.func4, Try.ntmps4
  go_wp2_with fail
  refine (toInt64S_any A c n zs _ (H.out.next b1.out) nn).mono ?_
  rintro r w2 ⟨rfl, k2, hb2⟩
  have b2 := Lib.hid (below_more b1.out hb2 (Nat.le_refl _))
  have s2 := hb2.size
  have R2 := Lib.hid (Rd.blk (n := n) (k := 1) (B := w2.heap.size) k2 (by rw [iv_len, HL.out]; omega) k2.lt)
  clear hb2 k2 b1
  go_wp2_with fail
  refine (MajorityChance_s _ _ n zs _ R2.out nn HZ.out).mono ?_
  rintro r w3 ⟨rfl, hb3⟩
  have b3 := Lib.hid (below_more b2.out hb3 (Nat.le_refl _))
  have s3 := hb3.size
  clear hb3 R2 b2
  go_wp2_with fail
  refine (toInt64S_any A c n zs _ (H.out.next b3.out) nn).mono ?_
  rintro r w4 ⟨rfl, k4, hb4⟩
  have b4 := Lib.hid (below_more b3.out hb4 (Nat.le_refl _))
  have s4 := hb4.size
  have R4 := Lib.hid (Rd.blk (n := n) (k := 1) (B := w4.heap.size) k4 (by rw [iv_len, HL.out]; omega) k4.lt)
  clear hb4 k4 b3
  go_wp2_with fail
  refine (MajorityChance_i _ _ n zs _ R4.out nn HZ.out).mono ?_
  rintro r w5 ⟨rfl, hb5⟩
  have b5 := Lib.hid (below_more b4.out hb5 (Nat.le_refl _))
  have R5 := Lib.hid (R4.out.next hb5)
  clear hb5 R4 b4
  go_wp2_with fail
  refine (toInt64S_any A c n zs _ (H.out.next b5.out) nn).mono ?_
  rintro r w6 ⟨rfl, k6, hb6⟩
  have b6 := Lib.hid (below_more b5.out hb6 (Nat.le_refl _))
  have s6 := hb6.size
  have R6 := Lib.hid (Rd.blk (n := n) (k := 1) (B := w6.heap.size) k6 (by rw [iv_len, HL.out]; omega) k6.lt)
  have R6' := Lib.hid (R5.out.next hb6)
  clear hb6 k6 b5 R5
  go_wp2_with fail
  refine (eqInt64S_refl _ _ _ _ n zs _ R6'.out R6.out (by omega)).mono ?_
  rintro r w7 ⟨rfl, hb7⟩
  go_wp2
  go_ret
  exact ⟨rfl, below_more b6.out hb7 (Nat.le_refl _)⟩
end Go.Proofs.Ythmpcpcmmahheaa
