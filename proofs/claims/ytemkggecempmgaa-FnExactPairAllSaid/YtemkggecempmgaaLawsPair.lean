/- The law of PairAll. -/
import Derived.Test.YtemkggecempmgaaPairY
import Derived.Test.YtemkggecempmgaaMarkP
import Derived.Test.YtemkggecempmgaaOpenP
import Derived.Test.YtemkggecempmgaaOpenI
set_option linter.unusedVariables false
set_option linter.unusedSimpArgs false
namespace Go.Proofs.Ytemkggecempmgaa
open Go.RowKit

theorem tot_rowsP (ps : List (Nat × Nat)) : tot (rowsP ps) = 2 * ps.length := by
  induction ps with
  | nil => rfl
  | cons p ps ih =>
    rw [rowsP, List.map_cons, ← rowsP, tot, ih, List.length_cons]
    simp [rowP]; omega
theorem PairAll_bd (ds : List PlankD) (budget : Int) : (PairAll_L ds budget).1.length ≤ 8 ∧ (∀ r ∈ (PairAll_L ds budget).1, r.length ≤ maxLen) ∧ tot (PairAll_L ds budget).1 ≤ 16 := by
  unfold PairAll_L
  split
  · rename_i h0
    cases hf : findP ds budget with
    | none => simp [tot]
    | some s =>
      have c := codeP_ok h0
      have n16 := (planksB_t c.1).1
      have hl : s.best.length ≤ 8 := psrch_len (M := 8) _ _ _ _ _ _ hf (by rw [unus_rep]; omega) (by simp; omega) (by simp)
      simp only
      refine ⟨by rw [rowsP_len]; exact hl, fun r hr => ?_, by rw [tot_rowsP]; omega⟩
      rw [rowsP, List.mem_map] at hr
      obtain ⟨p, _, rfl⟩ := hr
      simp [rowP, maxLen]
  · simp [tot]
theorem own_blkK {w : World} {L g n k : Nat} {t : TypeId} {xs : List Value} (h : Blk w g t xs.toArray) (hx : xs.length = n * k) (hL : L ≤ g) (hm : n ≤ maxLen) : w.ownsRow L t k (.slice (some ⟨g, 0, none⟩) n n) n xs :=
  ⟨hx, .inr ⟨g, n, xs.toArray, rfl, hL, h, Nat.le_refl _, hm, by simp [hx], by simp [List.take_of_length_le, hx]⟩⟩
theorem plank_len {ds : List PlankD} {n : Nat} (hn : ds.length = n) : (ds.flatMap plankF).length = n * 6 := by rw [flat_len plankF_len, hn]
set_option maxRecDepth 100000 in
set_option maxHeartbeats 8000000 in
theorem FnExactPairAll_walk (v0 v1 : Value) (w : World) (i0 : IsPlankS w v0) (i1 : IsI64 w v1) :
    Calls Try.prog 7 #[v0, v1] w fun e w' => e = .returned (.bool true) ∧ Below w.heap.size w w' := by
  obtain ⟨A, n, c, ds, rfl, hn, hm, hR, hz⟩ := i0
  obtain ⟨budget, rfl, _⟩ := i1
  have zb := PairAll_bd ds budget
  obtain ⟨res, hres⟩ : ∃ x, x = PairAll_L ds budget := ⟨_, rfl⟩
  rw [← hres] at zb
  obtain ⟨Z, y, cd⟩ := res
  simp only at zb
  obtain ⟨nz, hnz⟩ : ∃ x, x = Z.length := ⟨_, rfl⟩
  rw [← hnz] at zb
  have z8 : nz ≤ 8 := zb.1
  have z1 : nz ≤ maxLen := by unfold maxLen; omega
  have ZR := Lib.hid zb.2.1
  have z2 : (1 : Int) + tot Z ≤ 9223372036854775807 := by have := zb.2.2; omega
  have z0 : (0 : Int) ≤ 1 + tot Z := by omega
  clear zb
  have H := Lib.hid hR
  have HN := Lib.hid hn
  have HZ := Lib.hid hz
  have CS : Hid (∀ (A : Option Addr) (c : Nat) (w : World), Rd w w.heap.size 6 A n (ds.flatMap plankF) → n ≤ 1048576 →
      Calls Try.prog 40 #[.slice A n c, .int .i64 budget] w fun e w' => ∃ v, e = .returned (.tuple #[v, .int .i64 y, .int .i64 cd]) ∧ Own2 w' w.heap.size w'.heap.size 29 2 v nz Z ∧ Below w.heap.size w w') := Lib.hid fun A c w hl nn => by
    have := PairAll_s A c n ds budget w hn hl hz nn
    rw [← hres] at this
    rw [hnz]; exact this
  have CI : Hid (∀ (A : Option Addr) (c : Nat) (w : World), Rd w w.heap.size 6 A n (ds.flatMap plankF) → n ≤ 1048576 →
      Calls Try.prog 36 #[.slice A n c, .int .i64 budget] w fun e w' => ∃ v, e = .returned (.tuple #[v, .int .i64 y, .int .i64 cd]) ∧ Own2 w' w.heap.size w'.heap.size 29 2 v nz Z ∧ Below w.heap.size w w') := Lib.hid fun A c w hl nn => by
    have := PairAll_i A c n ds budget w hn hl hz nn
    rw [← hres] at this
    rw [hnz]; exact this
  clear hR hn hz hres hnz
  have m2 := hm
  unfold maxLen at m2
  go_enter Try.func7, Try.ntmps7
  go_wp2_with fail
  refine (szPlankS_any A c n ds _ w HN.out H.out HZ.out (by omega) (by omega) hm).mono ?_
  rintro r w1 ⟨q, hq, rfl, hb1⟩
  have b1 := Lib.hid hb1
  have s1 := hb1.size
  clear hb1
  rcases hq with rfl | ⟨q0, q1⟩
  · go_wp2
    go_ret
    exact ⟨rfl, b1.out⟩
  have nn : n ≤ 1048576 := by omega
  clear q1
  go_wp2_with fail
  refine (toPlankS_any A c n ds _ HN.out (H.out.next b1.out) nn).mono ?_
  rintro r w2 ⟨rfl, k2, hb2⟩
  have b2 := Lib.hid (below_more b1.out hb2 (Nat.le_refl _))
  have s2 := hb2.size
  have X2 := Lib.hid (Rd.blk (n := n) (k := 6) (B := w2.heap.size) k2 (plank_len HN.out) k2.lt)
  clear hb2 k2 b1
  go_wp2_with fail
  refine (CS.out _ _ w2 X2.out nn).mono ?_
  rintro r w3 ⟨v3, rfl, o3, hb3⟩
  have b3 := Lib.hid (below_more b2.out hb3 (Nat.le_refl _))
  have s3 := hb3.size
  obtain ⟨A3, c3, rfl⟩ := own2_val o3
  have W3 := Lib.hid o3.reads
  clear hb3 o3 X2 b2
  go_wp2_with fail
  refine (toPlankS_any A c n ds _ HN.out (H.out.next b3.out) nn).mono ?_
  rintro r w4 ⟨rfl, k4, hb4⟩
  have b4 := Lib.hid (below_more b3.out hb4 (Nat.le_refl _))
  have s4 := hb4.size
  have X4 := Lib.hid (own_blkK (L := w3.heap.size) (n := n) (k := 6) k4 (plank_len HN.out) (Nat.le_refl _) hm)
  have XB : Hid (∀ k, Value.ownBlock (.slice (some ⟨w3.heap.size, 0, none⟩) n n) = some k → w3.heap.size ≤ k ∧ k < w4.heap.size) := Lib.hid (X4.out.lt)
  have W4 := Lib.hid (W3.out.below hb4 (Nat.le_refl _))
  clear hb4 k4 b3 W3
  go_wp2_with fail
  refine (CI.out _ _ w4 (Rd.own X4.out) nn).mono ?_
  rintro r w5 ⟨v5, rfl, o5, hb5⟩
  have b5 := Lib.hid (below_more b4.out hb5 (Nat.le_refl _))
  have s5 := hb5.size
  obtain ⟨A5, c5, rfl⟩ := own2_val o5
  have G5 := Lib.hid o5
  have W5 := Lib.hid (W4.out.below hb5 (by omega))
  have X5 := Lib.hid (own_grow X4.out hb5)
  clear hb5 o5 b4 W4 X4
  go_wp2_with fail
  refine (eqInt64SS_refl _ _ _ _ nz Z _ (G5.out.reads.all (Nat.le_refl _)) (W5.out.all (by omega)) z1 ZR.out).mono ?_
  rintro r w6 ⟨rfl, hb6⟩
  have b6 := Lib.hid (below_more b5.out hb6 (Nat.le_refl _))
  have s6 := hb6.size
  have W6 := Lib.hid (W5.out.below hb6 (by omega))
  have X6 := Lib.hid (own_grow X5.out hb6)
  have G6 := Lib.hid (G5.out.below hb6)
  clear hb6 b5 W5 X5 G5
  go_wp2_with fail
  refine (toPlankS_any A c n ds _ HN.out (H.out.next b6.out) nn).mono ?_
  rintro r w7 ⟨rfl, k7, hb7⟩
  have b7 := Lib.hid (below_more b6.out hb7 (Nat.le_refl _))
  have s7 := hb7.size
  have W7 := Lib.hid (W6.out.below hb7 (by omega))
  have X7 := Lib.hid (own_grow X6.out hb7)
  have G7 := Lib.hid (G6.out.below hb7)
  have C7 := Lib.hid (Rd.blk (n := n) (k := 6) (B := w7.heap.size) k7 (plank_len HN.out) k7.lt)
  clear hb7 k7 b6 W6 X6 G6
  go_wp2_with fail
  refine (eqPlankS_refl _ _ _ _ n ds _ HN.out (Rd.own X7.out) C7.out (by omega)).mono ?_
  rintro r w8 ⟨rfl, hb8⟩
  have b8 := Lib.hid (below_more b7.out hb8 (Nat.le_refl _))
  have s8 := hb8.size
  have W8 := Lib.hid (W7.out.below hb8 (by omega))
  have X8 := Lib.hid (own_grow X7.out hb8)
  have G8 := Lib.hid (G7.out.below hb8)
  clear hb8 b7 W7 X7 G7 C7
  go_wp2_with fail
  refine (markPlankS_own _ _ n _ _ 1 _ X8.out (by omega) (by omega) nn).mono ?_
  rintro r w9 ⟨rfl, g9⟩
  have t9 : Tch w3.heap.size w4.heap.size w8 w9 := Tch.of_grown g9 XB.out
  have b9 := Lib.hid (t9.below b8.out (by omega) (by omega))
  have s9 := t9.size
  have W9 := Lib.hid (W8.out.tch t9 (by omega) (.inl (Nat.le_refl _)))
  have G9 := Lib.hid (G8.out.tch t9 (Nat.le_refl _))
  clear t9 g9 b8 W8 X8 G8 XB
  have k9 : (0 : Int) ≤ ((1 + 6 * n : Nat) : Int) := by omega
  obtain ⟨K, hK⟩ : ∃ K : Int, K = ((1 + 6 * n : Nat) : Int) := ⟨_, rfl⟩
  rw [← hK] at k9 ⊢
  clear hK
  go_wp2_with fail
  refine (eqInt64SS_refl _ _ _ _ nz Z _ (G9.out.reads.all (by omega)) (W9.out.all (by omega)) z1 ZR.out).mono ?_
  rintro r w10 ⟨rfl, hb10⟩
  have b10 := Lib.hid (below_more b9.out hb10 (Nat.le_refl _))
  have s10 := hb10.size
  have W10 := Lib.hid (W9.out.below hb10 (by omega))
  have G10 := Lib.hid (G9.out.below hb10)
  clear hb10 b9 W9 G9
  go_wp2_with fail
  refine (markInt64SS_own _ _ nz _ _ Z _ _ G10.out z1 (by omega) z2).mono ?_
  rintro r w11 ⟨rfl, o11, t11⟩
  have b11 := Lib.hid (t11.below b10.out (by omega) (by omega))
  have s11 := t11.size
  have W11 := Lib.hid (W10.out.tch t11 (by omega) (.inl (by omega)))
  have G11 := Lib.hid o11.reads
  clear t11 o11 b10 W10 G10
  go_wp2_with fail
  refine (heldInt64SS_any _ _ nz _ _ Z _ _ G11.out (by omega) z1 (by omega) z2).mono ?_
  rintro r w' ⟨rfl, rfl⟩
  go_wp2_with fail
  refine (toPlankS_any A c n ds _ HN.out (H.out.next b11.out) nn).mono ?_
  rintro r w12 ⟨rfl, k12, hb12⟩
  have b12 := Lib.hid (below_more b11.out hb12 (Nat.le_refl _))
  have s12 := hb12.size
  have W12 := Lib.hid (W11.out.below hb12 (by omega))
  have G12 := Lib.hid (G11.out.below hb12 (by omega))
  have X12 := Lib.hid (Rd.blk (n := n) (k := 6) (B := w12.heap.size) k12 (plank_len HN.out) k12.lt)
  clear hb12 k12 b11 W11 G11
  go_wp2_with fail
  refine (CI.out _ _ w12 X12.out nn).mono ?_
  rintro r w13 ⟨v13, rfl, o13, hb13⟩
  have b13 := Lib.hid (below_more b12.out hb13 (Nat.le_refl _))
  have s13 := hb13.size
  obtain ⟨A13, c13, rfl⟩ := own2_val o13
  have N13 := Lib.hid o13
  have W13 := Lib.hid (W12.out.below hb13 (by omega))
  have G13 := Lib.hid (G12.out.below hb13 (by omega))
  clear hb13 o13 b12 W12 G12 X12
  go_wp2_with fail
  refine (eqInt64SS_refl _ _ _ _ nz Z _ (N13.out.reads.all (Nat.le_refl _)) (W13.out.all (by omega)) z1 ZR.out).mono ?_
  rintro r w14 ⟨rfl, hb14⟩
  have b14 := Lib.hid (below_more b13.out hb14 (Nat.le_refl _))
  have s14 := hb14.size
  have G14 := Lib.hid (G13.out.below hb14 (by omega))
  clear hb14 b13 W13 G13 N13
  go_wp2_with fail
  refine (heldInt64SS_any _ _ nz _ _ Z _ _ G14.out (by omega) z1 (by omega) z2).mono ?_
  rintro r w' ⟨rfl, rfl⟩
  go_wp2
  go_ret
  exact ⟨rfl, b14.out⟩
end Go.Proofs.Ytemkggecempmgaa
