/- The law of DropWork. -/
import Derived.Test.YthcglifdbfbkeaaDrop
import Derived.Test.YthcglifdbfbkeaaOpenI
set_option linter.unusedVariables false
namespace Go.Proofs.Ythcglifdbfbkeaa
open Go.RowKit

set_option maxHeartbeats 4000000 in
theorem FnExactDropWork_walk (v0 v1 : Value) (w : World) (i0 : IsI64SS w v0) (i1 : IsI64 w v1) :
    Calls Try.prog 9 #[v0, v1] w fun e w' => e = .returned (.bool true) ∧ Below w.heap.size w w' := by
  obtain ⟨A, n, c, rs, rfl, hm, hR, hl⟩ := i0
  obtain ⟨p1, rfl, _⟩ := i1
  have H := Lib.hid hR
  have HL := Lib.hid hl
  clear hR hl
  have m2 := hm
  unfold maxLen at m2
  go_enter Try.func9, Try.ntmps9
  go_wp2_with fail
  refine (szInt64SS_any A c n rs _ w H.out HL.out (by omega) (by omega) hm).mono ?_
  rintro r w1 ⟨q, hq, rfl, hb1⟩
  have b1 := Lib.hid hb1
  have s1 := hb1.size
  clear hb1
  rcases hq with rfl | ⟨q0, q1⟩
  · go_wp2
    go_ret
    exact ⟨rfl, b1.out⟩
  have nn : n + tot rs ≤ 1048576 := by omega
  clear q1
  go_wp2_with fail
  refine (toInt64SS_any A c n rs _ (H.out.next b1.out) nn).mono ?_
  rintro r w2 ⟨rfl, o2, hb2⟩
  have b2 := Lib.hid (below_more b1.out hb2 (Nat.le_refl _))
  have s2 := hb2.size
  have R2 := Lib.hid (o2.reads.all (Nat.le_refl _))
  clear hb2 o2 b1
  go_wp2_with fail
  have zm := DropWork_bd rs p1
  have ZM := Lib.hid zm
  clear zm
  refine ((DropWork_s _ _ n rs p1 _ R2.out hm HL.out)).mono ?_
  rintro r w3 ⟨v3, rfl, o3, hb3⟩
  have b3 := Lib.hid (below_more b2.out hb3 (Nat.le_refl _))
  have s3 := hb3.size
  obtain ⟨A3, c3, rfl⟩ := own2_val o3
  have W3 := Lib.hid (o3.reads)
  clear hb3 o3 R2 b2
  go_wp2_with fail
  refine (toInt64SS_any A c n rs _ (H.out.next b3.out) nn).mono ?_
  rintro r w4 ⟨rfl, o4, hb4⟩
  have b4 := Lib.hid (below_more b3.out hb4 (Nat.le_refl _))
  have s4 := hb4.size
  have X4 := Lib.hid o4
  have W4 := Lib.hid (W3.out.below hb4 (Nat.le_refl _))
  clear hb4 o4 b3 W3
  go_wp2_with fail
  refine ((DropWork_i _ _ n rs p1 _ (X4.out.reads.all (Nat.le_refl _)) hm HL.out)).mono ?_
  rintro r w5 ⟨v5, rfl, o5, hb5⟩
  have b5 := Lib.hid (below_more b4.out hb5 (Nat.le_refl _))
  have s5 := hb5.size
  obtain ⟨A5, c5, rfl⟩ := own2_val o5
  have G5 := Lib.hid o5
  have W5 := Lib.hid (W4.out.below hb5 (by omega))
  have X5 := Lib.hid (X4.out.below hb5)
  clear hb5 o5 b4 W4 X4
  go_wp2_with fail
  refine (eqInt64SS_refl _ _ _ _ _ (DropWork_L rs p1).1 _ ((G5.out.reads).all (Nat.le_refl _)) (W5.out.all (by omega)) ZM.out.1 ZM.out.2.1).mono ?_
  rintro r w6 ⟨rfl, hb6⟩
  have b6 := Lib.hid (below_more b5.out hb6 (Nat.le_refl _))
  have s6 := hb6.size
  have W6 := Lib.hid (W5.out.below hb6 (by omega))
  have X6 := Lib.hid (X5.out.below hb6)
  have G6 := Lib.hid (G5.out.below hb6)
  clear hb6 b5 W5 X5 G5
  go_wp2_with fail
  refine (toInt64SS_any A c n rs _ (H.out.next b6.out) nn).mono ?_
  rintro r w7 ⟨rfl, o7, hb7⟩
  have b7 := Lib.hid (below_more b6.out hb7 (Nat.le_refl _))
  have s7 := hb7.size
  have W7 := Lib.hid (W6.out.below hb7 (by omega))
  have X7 := Lib.hid (X6.out.below hb7)
  have G7 := Lib.hid (G6.out.below hb7)
  have C7 := Lib.hid (o7.reads.all (Nat.le_refl _))
  clear hb7 o7 b6 W6 X6 G6
  go_wp2_with fail
  refine (eqInt64SS_refl _ _ _ _ n rs _ (X7.out.reads.all (by omega)) C7.out hm HL.out).mono ?_
  rintro r w8 ⟨rfl, hb8⟩
  have b8 := Lib.hid (below_more b7.out hb8 (Nat.le_refl _))
  have s8 := hb8.size
  have W8 := Lib.hid (W7.out.below hb8 (by omega))
  have X8 := Lib.hid (X7.out.below hb8)
  have G8 := Lib.hid (G7.out.below hb8)
  clear hb8 b7 W7 X7 G7 C7
  go_wp2_with fail
  refine (markInt64SS_own _ _ n _ _ rs _ _ X8.out hm (by omega) (by omega)).mono ?_
  rintro r w9 ⟨rfl, _, t9⟩
  have b9 := Lib.hid (t9.below b8.out (by omega) (by omega))
  have s9 := t9.size
  have W9 := Lib.hid (W8.out.tch t9 (by omega) (.inl (Nat.le_refl _)))
  have G9 := Lib.hid (G8.out.tch t9 (Nat.le_refl _))
  clear t9 b8 W8 X8 G8
  go_wp2_with fail
  refine (eqInt64SS_refl _ _ _ _ _ (DropWork_L rs p1).1 _ ((G9.out.reads).all (by omega)) (W9.out.all (by omega)) ZM.out.1 ZM.out.2.1).mono ?_
  rintro r w10 ⟨rfl, hb10⟩
  have b10 := Lib.hid (below_more b9.out hb10 (Nat.le_refl _))
  have s10 := hb10.size
  have W10 := Lib.hid (W9.out.below hb10 (by omega))
  have G10 := Lib.hid (G9.out.below hb10)
  clear hb10 b9 W9 G9
  go_wp2_with fail
  have z1 : (DropWork_L rs p1).1.length ≤ maxLen := ZM.out.1
  have z2 : (1 : Int) + tot (DropWork_L rs p1).1 ≤ 9223372036854775807 := by have := ZM.out.2.2; omega
  refine (markInt64SS_own _ _ _ _ _ (DropWork_L rs p1).1 _ _ G10.out z1 (by omega) z2).mono ?_
  rintro r w11 ⟨rfl, o11, t11⟩
  have b11 := Lib.hid (t11.below b10.out (by omega) (by omega))
  have s11 := t11.size
  have W11 := Lib.hid (W10.out.tch t11 (by omega) (.inl (by omega)))
  have G11 := Lib.hid o11.reads
  clear t11 o11 b10 W10 G10
  go_wp2_with fail
  refine (heldInt64SS_any _ _ _ _ _ (DropWork_L rs p1).1 _ _ G11.out (by omega) z1 (by omega) z2).mono ?_
  rintro r w' ⟨rfl, rfl⟩
  go_wp2_with fail
  refine (toInt64SS_any A c n rs _ (H.out.next b11.out) nn).mono ?_
  rintro r w12 ⟨rfl, o12, hb12⟩
  have b12 := Lib.hid (below_more b11.out hb12 (Nat.le_refl _))
  have s12 := hb12.size
  have W12 := Lib.hid (W11.out.below hb12 (by omega))
  have G12 := Lib.hid (G11.out.below hb12 (by omega))
  have C12 := Lib.hid (o12.reads.all (Nat.le_refl _))
  clear hb12 o12 b11 W11 G11
  go_wp2_with fail
  refine ((DropWork_i _ _ n rs p1 _ C12.out hm HL.out)).mono ?_
  rintro r w13 ⟨v13, rfl, o13, hb13⟩
  have b13 := Lib.hid (below_more b12.out hb13 (Nat.le_refl _))
  have s13 := hb13.size
  obtain ⟨A13, c13, rfl⟩ := own2_val o13
  have W13 := Lib.hid (W12.out.below hb13 (by omega))
  have G13 := Lib.hid (G12.out.below hb13 (by omega))
  have N13 := Lib.hid (o13.reads)
  clear hb13 o13 b12 W12 G12 C12
  go_wp2_with fail
  refine (eqInt64SS_refl _ _ _ _ _ (DropWork_L rs p1).1 _ (N13.out.all (Nat.le_refl _)) (W13.out.all (by omega)) ZM.out.1 ZM.out.2.1).mono ?_
  rintro r w14 ⟨rfl, hb14⟩
  have b14 := Lib.hid (below_more b13.out hb14 (Nat.le_refl _))
  have s14 := hb14.size
  have G14 := Lib.hid (G13.out.below hb14 (by omega))
  clear hb14 b13 W13 G13 N13
  go_wp2_with fail
  refine (heldInt64SS_any _ _ _ _ _ (DropWork_L rs p1).1 _ _ G14.out (by omega) z1 (by omega) z2).mono ?_
  rintro r w' ⟨rfl, rfl⟩
  go_wp2
  go_ret
  exact ⟨rfl, b14.out⟩
end Go.Proofs.Ythcglifdbfbkeaa
