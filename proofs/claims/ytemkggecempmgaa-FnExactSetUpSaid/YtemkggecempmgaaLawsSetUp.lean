/- The law of SetUp. -/
import Derived.Test.YtemkggecempmgaaLawsCount
import Derived.Test.YtemkggecempmgaaMarkC
set_option linter.unusedVariables false
namespace Go.Proofs.Ytemkggecempmgaa
open Go.RowKit

theorem SetUp_bd {cs : List CordD} {gs : List (List Int)} {most share budget : Int} {n m : Nat} (hn : cs.length = n) (hm : gs.length = m) : (SetUp_L cs gs most share budget).1.length ≤ 4 := by
  unfold SetUp_L
  split
  · rename_i h0
    cases hf : findS cs gs most share budget with
    | none => simp
    | some s =>
      obtain ⟨l, c, best, least⟩ := s
      simp only
      split
      · simp
      · rename_i hc
        exact best_len n m cs gs most share budget hn hm h0 hf hc
  · simp
set_option maxRecDepth 100000 in
set_option maxHeartbeats 8000000 in
theorem FnExactSetUp_walk (v0 v1 v2 v3 v4 : Value) (w : World) (i0 : IsCordS w v0) (i1 : IsI64SS w v1) (i2 : IsI64 w v2) (i3 : IsI64 w v3) (i4 : IsI64 w v4) :
    Calls Try.prog 5 #[v0, v1, v2, v3, v4] w fun e w' => e = .returned (.bool true) ∧ Below w.heap.size w w' := by
  obtain ⟨LA, n, lc, cs, rfl, hn, hnm, hl, _⟩ := i0
  obtain ⟨GA, m, gc, gs, rfl, hmm, hg, hr⟩ := i1
  obtain ⟨most, rfl, _⟩ := i2
  obtain ⟨share, rfl, _⟩ := i3
  obtain ⟨budget, rfl, _⟩ := i4
  have zb := SetUp_bd (most := most) (share := share) (budget := budget) hn hg.1
  obtain ⟨res, hres⟩ : ∃ x, x = SetUp_L cs gs most share budget := ⟨_, rfl⟩
  rw [← hres] at zb
  obtain ⟨Z, y, c⟩ := res
  simp only at zb
  obtain ⟨nz, hnz⟩ : ∃ x, x = Z.length := ⟨_, rfl⟩
  rw [← hnz] at zb
  have HL := Lib.hid hl
  have HG := Lib.hid hg
  have HR := Lib.hid hr
  have HN := Lib.hid hn
  have CS : Hid (∀ (A A' : Option Addr) (lc gc : Nat) (w : World), Rd w w.heap.size 4 A n (cs.flatMap cordF) → Rd2 w 0 w.heap.size A' m gs → n ≤ 1048576 → m ≤ 1048576 →
      Calls Try.prog 29 #[.slice A n lc, .slice A' m gc, .int .i64 most, .int .i64 share, .int .i64 budget] w fun e w' => ∃ v, e = .returned (.tuple #[v, .int .i64 y, .int .i64 c]) ∧ w'.ownsRow w.heap.size 2 1 v nz (iv Z) ∧ Below w.heap.size w w') := Lib.hid fun A A' lc gc w hl hg nn mm => by
    have := SetUp_s A A' lc gc n m cs gs most share budget w hn hl hg hr nn mm
    rw [← hres] at this
    rw [hnz]; exact this
  have CI : Hid (∀ (A A' : Option Addr) (lc gc : Nat) (w : World), Rd w w.heap.size 4 A n (cs.flatMap cordF) → Rd2 w 0 w.heap.size A' m gs → n ≤ 1048576 → m ≤ 1048576 →
      Calls Try.prog 13 #[.slice A n lc, .slice A' m gc, .int .i64 most, .int .i64 share, .int .i64 budget] w fun e w' => ∃ v, e = .returned (.tuple #[v, .int .i64 y, .int .i64 c]) ∧ w'.ownsRow w.heap.size 2 1 v nz (iv Z) ∧ Below w.heap.size w w') := Lib.hid fun A A' lc gc w hl hg nn mm => by
    have := SetUp_i A A' lc gc n m cs gs most share budget w hn hl hg hr nn mm
    rw [← hres] at this
    rw [hnz]; exact this
  clear hl hg hr hn hres hnz
  have n2 := hnm
  have m2 := hmm
  unfold maxLen at n2 m2
  go_enter Try.func5, Try.ntmps5
  go_wp2_with fail
  refine (szCordS_any LA lc n _ w (by omega) (by omega) hnm).mono ?_
  rintro r w1 ⟨q, hq, rfl, hb1⟩
  have b1 := Lib.hid hb1
  clear hb1
  rcases hq with rfl | ⟨q0, q1⟩
  · go_wp2
    go_ret
    exact ⟨rfl, b1.out⟩
  go_wp2_with fail
  refine (szInt64SS_any GA gc m gs _ w1 (HG.out.next b1.out) HR.out q0 (by omega) hmm).mono ?_
  rintro r w2 ⟨q', hq', rfl, hb2⟩
  have b2 := Lib.hid (below_more b1.out hb2 (Nat.le_refl _))
  clear hb2 b1
  rcases hq' with rfl | ⟨q0', q1'⟩
  · go_wp2
    go_ret
    exact ⟨rfl, b2.out⟩
  have nn : n ≤ 1048576 := by omega
  have mm : m + tot gs ≤ 1048576 := by omega
  have m1 : m ≤ 1048576 := by omega
  clear q1 q1'
  have toC : Hid (∀ w', Below w.heap.size w w' → _) := Lib.hid fun w' hb => toCordS_any LA lc n cs w' HN.out (HL.out.next hb) nn
  have toG : Hid (∀ w', Below w.heap.size w w' → _) := Lib.hid fun w' hb => toInt64SS_any GA gc m gs w' (HG.out.next hb) mm
  go_wp2_with fail
  refine (toC.out w2 b2.out).mono ?_
  rintro r w3 ⟨rfl, k3, hb3⟩
  have b3 := Lib.hid (below_more b2.out hb3 (Nat.le_refl _))
  have L3 := Lib.hid (rd_blk k3 HN.out)
  clear hb3 k3 b2
  go_wp2_with fail
  refine (toG.out w3 b3.out).mono ?_
  rintro r w4 ⟨rfl, o4, hb4⟩
  have b4 := Lib.hid (below_more b3.out hb4 (Nat.le_refl _))
  have L4 := Lib.hid (L3.out.next hb4)
  have G4 := Lib.hid (o4.reads.all (Nat.le_refl _))
  clear hb4 o4 b3 L3
  go_wp2_with fail
  refine (CS.out _ _ _ _ w4 L4.out G4.out nn m1).mono ?_
  rintro r w5 ⟨v5, rfl, o5, hb5⟩
  have b5 := Lib.hid (below_more b4.out hb5 (Nat.le_refl _))
  obtain ⟨A5, c5, rfl⟩ := own_val o5
  have z5 := b5.out.size
  have W5 := Lib.hid (RdIn.own o5)
  clear hb5 o5 b4 L4 G4
  go_wp2_with fail
  refine (toC.out w5 b5.out).mono ?_
  rintro r w6 ⟨rfl, k6, hb6⟩
  have b6 := Lib.hid (below_more b5.out hb6 (Nat.le_refl _))
  have s6 := hb6.size
  have W6 := Lib.hid (W5.out.below hb6 (Nat.le_refl _))
  have K6 := Lib.hid k6
  have l6 := k6.lt
  clear hb6 k6 b5 W5
  go_wp2_with fail
  refine (toG.out w6 b6.out).mono ?_
  rintro r w7 ⟨rfl, o7, hb7⟩
  have b7 := Lib.hid (below_more b6.out hb7 (Nat.le_refl _))
  have s7 := hb7.size
  have W7 := Lib.hid (W6.out.below hb7 (by omega))
  have K7 := Lib.hid (K6.out.below hb7 l6)
  have X7 := Lib.hid o7
  clear hb7 o7 b6 W6 K6
  go_wp2_with fail
  refine (CI.out _ _ _ _ w7 (rd_blk K7.out HN.out) (X7.out.reads.all (Nat.le_refl _)) nn m1).mono ?_
  rintro r w8 ⟨v8, rfl, o8, hb8⟩
  have b8 := Lib.hid (below_more b7.out hb8 (Nat.le_refl _))
  have s8 := hb8.size
  obtain ⟨A8, c8, rfl⟩ := own_val o8
  have G8 := Lib.hid o8
  have W8 := Lib.hid (W7.out.below hb8 (by omega))
  have K8 := Lib.hid (K7.out.below hb8 (by omega))
  have X8 := Lib.hid (X7.out.below hb8)
  clear hb8 o8 b7 W7 K7 X7
  go_wp2_with fail
  refine (eqInt64S_refl _ _ _ _ nz Z _ ((RdIn.own G8.out).all (Nat.le_refl _)) (W8.out.all (by omega)) (by omega)).mono ?_
  rintro r w9 ⟨rfl, hb9⟩
  have b9 := Lib.hid (below_more b8.out hb9 (Nat.le_refl _))
  have s9 := hb9.size
  have W9 := Lib.hid (W8.out.below hb9 (by omega))
  have K9 := Lib.hid (K8.out.below hb9 (by omega))
  have X9 := Lib.hid (X8.out.below hb9)
  have G9 := Lib.hid (own_below G8.out hb9)
  clear hb9 b8 W8 K8 X8 G8
  go_wp2_with fail
  refine (toC.out w9 b9.out).mono ?_
  rintro r w10 ⟨rfl, k10, hb10⟩
  have b10 := Lib.hid (below_more b9.out hb10 (Nat.le_refl _))
  have s10 := hb10.size
  have L10 := Lib.hid (rd_blk k10 HN.out)
  have W10 := Lib.hid (W9.out.below hb10 (by omega))
  have K10 := Lib.hid (K9.out.below hb10 (by omega))
  have X10 := Lib.hid (X9.out.below hb10)
  have G10 := Lib.hid (own_below G9.out hb10)
  clear hb10 k10 b9 W9 K9 X9 G9
  go_wp2_with fail
  refine (eqCordS_refl _ _ _ _ n cs w10 HN.out (rd_blk K10.out HN.out) L10.out nn).mono ?_
  rintro r w11 ⟨rfl, hb11⟩
  have b11 := Lib.hid (below_more b10.out hb11 (Nat.le_refl _))
  have s11 := hb11.size
  have W11 := Lib.hid (W10.out.below hb11 (by omega))
  have K11 := Lib.hid (K10.out.below hb11 (by omega))
  have X11 := Lib.hid (X10.out.below hb11)
  have G11 := Lib.hid (own_below G10.out hb11)
  clear hb11 L10 b10 W10 K10 X10 G10
  go_wp2_with fail
  refine (toG.out w11 b11.out).mono ?_
  rintro r w12 ⟨rfl, o12, hb12⟩
  have b12 := Lib.hid (below_more b11.out hb12 (Nat.le_refl _))
  have s12 := hb12.size
  have Y12 := Lib.hid (o12.reads.all (Nat.le_refl _))
  have W12 := Lib.hid (W11.out.below hb12 (by omega))
  have K12 := Lib.hid (K11.out.below hb12 (by omega))
  have X12 := Lib.hid (X11.out.below hb12)
  have G12 := Lib.hid (own_below G11.out hb12)
  clear hb12 o12 b11 W11 K11 X11 G11
  go_wp2_with fail
  refine (eqInt64SS_refl _ _ _ _ m gs w12 (X12.out.reads.all (by omega)) Y12.out hmm HR.out).mono ?_
  rintro r w13 ⟨rfl, hb13⟩
  have b13 := Lib.hid (below_more b12.out hb13 (Nat.le_refl _))
  have s13 := hb13.size
  have W13 := Lib.hid (W12.out.below hb13 (by omega))
  have K13 := Lib.hid (K12.out.below hb13 (by omega))
  have X13 := Lib.hid (X12.out.below hb13)
  have G13 := Lib.hid (own_below G12.out hb13)
  clear hb13 Y12 b12 W12 K12 X12 G12
  go_wp2_with fail
  refine (markCordS_any _ _ n _ _ w13 K13.out (by simp [flat_len cordF_len, HN.out]) nn (by omega) (by omega)).mono ?_
  rintro r w14 ⟨rfl, t14⟩
  have b14 := Lib.hid (t14.below b13.out (by omega) (by omega))
  have s14 := t14.size
  have W14 := Lib.hid (W13.out.tch t14 (by omega) (.inl (Nat.le_refl _)))
  have X14 := Lib.hid (X13.out.tch t14 (by omega))
  have G14 := Lib.hid (own_tch G13.out t14 (by omega))
  clear t14 b13 W13 K13 X13 G13
  go_wp2_with fail
  refine (markInt64SS_own _ _ m _ _ gs _ _ X14.out hmm (by omega) (by omega)).mono ?_
  rintro r w15 ⟨rfl, _, t15⟩
  have b15 := Lib.hid (t15.below b14.out (by omega) (by omega))
  have s15 := t15.size
  have W15 := Lib.hid (W14.out.tch t15 (by omega) (.inl (by omega)))
  have G15 := Lib.hid (own_tch G14.out t15 (by omega))
  clear t15 b14 W14 X14 G14
  go_wp2_with fail
  refine (eqInt64S_refl _ _ _ _ nz Z _ ((RdIn.own G15.out).all (by omega)) (W15.out.all (by omega)) (by omega)).mono ?_
  rintro r w16 ⟨rfl, hb16⟩
  have b16 := Lib.hid (below_more b15.out hb16 (Nat.le_refl _))
  have s16 := hb16.size
  have W16 := Lib.hid (W15.out.below hb16 (by omega))
  have G16 := Lib.hid (own_below G15.out hb16)
  clear hb16 b15 W15 G15
  go_wp2_with fail
  refine (markInt64S_own _ _ _ _ _ _ _ G16.out (by omega) (by omega)).mono ?_
  rintro r w17 ⟨rfl, o17, g17⟩
  have t17 : Tch w7.heap.size w16.heap.size w16 w17 := Tch.of_grown g17 fun k hk => G16.out.lt k hk
  have b17 := Lib.hid (t17.below b16.out (by omega) (by omega))
  have s17 := t17.size
  have W17 := Lib.hid (W16.out.tch t17 (by omega) (.inl (by omega)))
  have G17 := Lib.hid (RdIn.own o17)
  clear t17 o17 g17 b16 W16 G16
  go_wp2_with fail
  refine (heldInt64S_any _ _ _ _ _ (G17.out.all (Nat.le_refl _)) (by omega) (by omega)).mono ?_
  rintro r w' ⟨rfl, rfl⟩
  go_wp2_with fail
  refine (toC.out w17 b17.out).mono ?_
  rintro r w18 ⟨rfl, k18, hb18⟩
  have b18 := Lib.hid (below_more b17.out hb18 (Nat.le_refl _))
  have s18 := hb18.size
  have L18 := Lib.hid (rd_blk k18 HN.out)
  have W18 := Lib.hid (W17.out.below hb18 (by omega))
  have G18 := Lib.hid (G17.out.below hb18 (by omega))
  clear hb18 k18 b17 W17 G17
  go_wp2_with fail
  refine (toG.out w18 b18.out).mono ?_
  rintro r w19 ⟨rfl, o19, hb19⟩
  have b19 := Lib.hid (below_more b18.out hb19 (Nat.le_refl _))
  have s19 := hb19.size
  have L19 := Lib.hid (L18.out.next hb19)
  have Y19 := Lib.hid (o19.reads.all (Nat.le_refl _))
  have W19 := Lib.hid (W18.out.below hb19 (by omega))
  have G19 := Lib.hid (G18.out.below hb19 (by omega))
  clear hb19 o19 b18 W18 G18 L18
  go_wp2_with fail
  refine (CI.out _ _ _ _ w19 L19.out Y19.out nn m1).mono ?_
  rintro r w20 ⟨v20, rfl, o20, hb20⟩
  have b20 := Lib.hid (below_more b19.out hb20 (Nat.le_refl _))
  have s20 := hb20.size
  obtain ⟨A20, c20, rfl⟩ := own_val o20
  have N20 := Lib.hid (RdIn.own o20)
  have W20 := Lib.hid (W19.out.below hb20 (by omega))
  have G20 := Lib.hid (G19.out.below hb20 (by omega))
  clear hb20 o20 b19 W19 G19 L19 Y19
  go_wp2_with fail
  refine (eqInt64S_refl _ _ _ _ nz Z _ (N20.out.all (Nat.le_refl _)) (W20.out.all (by omega)) (by omega)).mono ?_
  rintro r w21 ⟨rfl, hb21⟩
  have b21 := Lib.hid (below_more b20.out hb21 (Nat.le_refl _))
  have s21 := hb21.size
  have G21 := Lib.hid (G20.out.below hb21 (by omega))
  clear hb21 b20 W20 G20 N20
  go_wp2_with fail
  refine (heldInt64S_any _ _ _ _ _ (G21.out.all (by omega)) (by omega) (by omega)).mono ?_
  rintro r w' ⟨rfl, rfl⟩
  go_wp2
  go_ret
  exact ⟨rfl, b21.out⟩
end Go.Proofs.Ytemkggecempmgaa
