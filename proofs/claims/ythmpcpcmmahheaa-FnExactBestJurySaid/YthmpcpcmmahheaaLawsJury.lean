/- The law of BestJury. -/
import Derived.Test.YthmpcpcmmahheaaJuryS
import Derived.Test.YthmpcpcmmahheaaOpenI
set_option linter.unusedVariables false
namespace Go.Proofs.Ythmpcpcmmahheaa
open Go.RowKit

theorem BestJury_bd (zs : List Int) : (BestJury_L zs).1.length ≤ 5 := by
  unfold BestJury_L
  split
  · rename_i h
    show (nv _).length ≤ 5
    rw [nv_len]
    exact bI_len (expB_t h).2.1 _
  · simp
set_option maxHeartbeats 4000000 in
theorem FnExactBestJury_walk (v0 : Value) (w : World) (i0 : IsI64S w v0) :
    Calls Try.prog 5 #[v0] w fun e w' => e = .returned (.bool true) ∧ Below w.heap.size w w' := by
  obtain ⟨A, n, c, zs, rfl, hm, hR, hz⟩ := i0
  have H := Lib.hid hR
  have HL := Lib.hid hR.len
  have HZ := Lib.hid hz
  clear hR hz
  have m2 := hm
  unfold maxLen at m2
  rcases Nat.lt_or_ge 1048576 n with nn | nn
  · go_enter Try.func5, Try.ntmps5
    go_wp2
    go_ret
    exact ⟨rfl, Below.refl _ _⟩
  have b1 := Lib.hid (Below.refl w.heap.size w)
  have zm := BestJury_bd zs
  go_enter Try.func5, Try.ntmps5
  go_wp2_with fail
  refine (toInt64S_any A c n zs _ (H.out.next b1.out) nn).mono ?_
  rintro r w2 ⟨rfl, k2, hb2⟩
  have b2 := Lib.hid (below_more b1.out hb2 (Nat.le_refl _))
  have s2 := hb2.size
  have R2 := Lib.hid (Rd.blk (n := n) (k := 1) (B := w2.heap.size) k2 (by rw [iv_len, HL.out]; omega) k2.lt)
  clear hb2 k2 b1
  go_wp2_with fail
  refine (BestJury_s _ _ n zs _ R2.out nn HZ.out).mono ?_
  rintro r w3 ⟨v3, rfl, o3, hb3⟩
  have b3 := Lib.hid (below_more b2.out hb3 (Nat.le_refl _))
  have s3 := hb3.size
  obtain ⟨A3, c3, rfl⟩ := own_val o3
  have W3 := Lib.hid (RdIn.own o3)
  clear hb3 o3 R2 b2
  go_wp2_with fail
  refine (toInt64S_any A c n zs _ (H.out.next b3.out) nn).mono ?_
  rintro r w4 ⟨rfl, k4, hb4⟩
  have b4 := Lib.hid (below_more b3.out hb4 (Nat.le_refl _))
  have s4 := hb4.size
  have X4 := Lib.hid (own_of_blk (L := w3.heap.size) (n := n) k4 (by rw [iv_len, HL.out]) (Nat.le_refl _) hm)
  have W4 := Lib.hid (W3.out.below hb4 (Nat.le_refl _))
  clear hb4 k4 b3 W3
  go_wp2_with fail
  refine (BestJury_i _ _ n zs _ ((RdIn.own X4.out).all (Nat.le_refl _)) nn HZ.out).mono ?_
  rintro r w5 ⟨v5, rfl, o5, hb5⟩
  have b5 := Lib.hid (below_more b4.out hb5 (Nat.le_refl _))
  have s5 := hb5.size
  obtain ⟨A5, c5, rfl⟩ := own_val o5
  have G5 := Lib.hid o5
  have W5 := Lib.hid (W4.out.below hb5 (by omega))
  have X5 := Lib.hid (own_below X4.out hb5)
  have XB : Hid (∀ k, Value.ownBlock (.slice (some ⟨w3.heap.size, 0, none⟩) n n) = some k → w3.heap.size ≤ k ∧ k < w4.heap.size) := Lib.hid (X4.out.lt)
  clear hb5 o5 b4 W4 X4
  go_wp2_with fail
  refine (eqInt64S_refl _ _ _ _ _ (BestJury_L zs).1 _ ((RdIn.own G5.out).all (Nat.le_refl _)) (W5.out.all (by omega)) (by omega)).mono ?_
  rintro r w6 ⟨rfl, hb6⟩
  have b6 := Lib.hid (below_more b5.out hb6 (Nat.le_refl _))
  have s6 := hb6.size
  have W6 := Lib.hid (W5.out.below hb6 (by omega))
  have X6 := Lib.hid (own_below X5.out hb6)
  have G6 := Lib.hid (own_below G5.out hb6)
  clear hb6 b5 W5 X5 G5
  go_wp2_with fail
  refine (toInt64S_any A c n zs _ (H.out.next b6.out) nn).mono ?_
  rintro r w7 ⟨rfl, k7, hb7⟩
  have b7 := Lib.hid (below_more b6.out hb7 (Nat.le_refl _))
  have s7 := hb7.size
  have W7 := Lib.hid (W6.out.below hb7 (by omega))
  have X7 := Lib.hid (own_below X6.out hb7)
  have G7 := Lib.hid (own_below G6.out hb7)
  have C7 := Lib.hid (Rd.blk (n := n) (k := 1) (B := w7.heap.size) k7 (by rw [iv_len, HL.out]; omega) k7.lt)
  clear hb7 k7 b6 W6 X6 G6
  go_wp2_with fail
  refine (eqInt64S_refl _ _ _ _ n zs _ ((RdIn.own X7.out).all (Nat.le_refl _)) C7.out (by omega)).mono ?_
  rintro r w8 ⟨rfl, hb8⟩
  have b8 := Lib.hid (below_more b7.out hb8 (Nat.le_refl _))
  have s8 := hb8.size
  have W8 := Lib.hid (W7.out.below hb8 (by omega))
  have X8 := Lib.hid (own_below X7.out hb8)
  have G8 := Lib.hid (own_below G7.out hb8)
  clear hb8 b7 W7 X7 G7 C7
  go_wp2_with fail
  refine (markInt64S_own _ _ n _ _ _ _ X8.out (by omega) (by omega)).mono ?_
  rintro r w9 ⟨rfl, _, g9⟩
  have t9 : Tch w3.heap.size w4.heap.size w8 w9 := Tch.of_grown g9 XB.out
  have b9 := Lib.hid (t9.below b8.out (by omega) (by omega))
  have s9 := t9.size
  have W9 := Lib.hid (W8.out.tch t9 (by omega) (.inl (Nat.le_refl _)))
  have G9 := Lib.hid (own_tch G8.out t9 (Nat.le_refl _))
  clear t9 g9 b8 W8 X8 G8 XB
  go_wp2_with fail
  refine (eqInt64S_refl _ _ _ _ _ (BestJury_L zs).1 _ ((RdIn.own G9.out).all (Nat.le_refl _)) (W9.out.all (by omega)) (by omega)).mono ?_
  rintro r w10 ⟨rfl, hb10⟩
  have b10 := Lib.hid (below_more b9.out hb10 (Nat.le_refl _))
  have s10 := hb10.size
  have W10 := Lib.hid (W9.out.below hb10 (by omega))
  have G10 := Lib.hid (own_below G9.out hb10)
  clear hb10 b9 W9 G9
  go_wp2_with fail
  refine (markInt64S_own _ _ _ _ _ _ _ G10.out (by omega) (by omega)).mono ?_
  rintro r w11 ⟨rfl, o11, g11⟩
  have t11 : Tch w4.heap.size w10.heap.size w10 w11 := Tch.of_grown g11 fun k hk => G10.out.lt k hk
  have b11 := Lib.hid (t11.below b10.out (by omega) (by omega))
  have s11 := t11.size
  have W11 := Lib.hid (W10.out.tch t11 (by omega) (.inl (by omega)))
  have G11 := Lib.hid (RdIn.own o11)
  clear t11 o11 g11 b10 W10 G10
  go_wp2_with fail
  refine (heldInt64S_any _ _ _ _ _ (G11.out.all (Nat.le_refl _)) (by omega) (by omega)).mono ?_
  rintro r w' ⟨rfl, rfl⟩
  go_wp2_with fail
  refine (toInt64S_any A c n zs _ (H.out.next b11.out) nn).mono ?_
  rintro r w12 ⟨rfl, k12, hb12⟩
  have b12 := Lib.hid (below_more b11.out hb12 (Nat.le_refl _))
  have s12 := hb12.size
  have W12 := Lib.hid (W11.out.below hb12 (by omega))
  have G12 := Lib.hid (G11.out.below hb12 (by omega))
  have C12 := Lib.hid (Rd.blk (n := n) (k := 1) (B := w12.heap.size) k12 (by rw [iv_len, HL.out]; omega) k12.lt)
  clear hb12 k12 b11 W11 G11
  go_wp2_with fail
  refine (BestJury_i _ _ n zs _ C12.out nn HZ.out).mono ?_
  rintro r w13 ⟨v13, rfl, o13, hb13⟩
  have b13 := Lib.hid (below_more b12.out hb13 (Nat.le_refl _))
  have s13 := hb13.size
  obtain ⟨A13, c13, rfl⟩ := own_val o13
  have W13 := Lib.hid (W12.out.below hb13 (by omega))
  have G13 := Lib.hid (G12.out.below hb13 (by omega))
  have N13 := Lib.hid (RdIn.own o13)
  clear hb13 o13 b12 W12 G12 C12
  go_wp2_with fail
  refine (eqInt64S_refl _ _ _ _ _ (BestJury_L zs).1 _ (N13.out.all (Nat.le_refl _)) (W13.out.all (by omega)) (by omega)).mono ?_
  rintro r w14 ⟨rfl, hb14⟩
  have b14 := Lib.hid (below_more b13.out hb14 (Nat.le_refl _))
  have s14 := hb14.size
  have G14 := Lib.hid (G13.out.below hb14 (by omega))
  clear hb14 b13 W13 G13 N13
  go_wp2_with fail
  refine (heldInt64S_any _ _ _ _ _ (G14.out.all (by omega)) (by omega) (by omega)).mono ?_
  rintro r w' ⟨rfl, rfl⟩
  go_wp2
  go_ret
  exact ⟨rfl, b14.out⟩
end Go.Proofs.Ythmpcpcmmahheaa
