/- Set-ups of strings: the reference's search; no string left. -/
import Derived.Test.YtemkggecempmgaaSearchI
set_option linter.unusedVariables false
namespace Go.Proofs.Ytemkggecempmgaa
open Go.RowKit

set_option maxRecDepth 100000 in
/-- the copy of a row of the call's own -/
theorem l00Own_own (L n c : Nat) (A : Option Addr) (zs : List Int) (w : World) (h : w.ownsRow L 2 1 (.slice A n c) n (iv zs)) (hn : n ≤ 1048576) :
    Calls Try.prog 64 #[.slice A n c] w (RetV 2 w n zs) := by
  cases A with
  | some a =>
    have hr := Rd.own h
    obtain ⟨b, o, s⟩ := a
    have : s = none := by
      rcases h.2 with ⟨hv, _⟩ | ⟨g, cap, cur, hv, _⟩
      · cases hv
      · injection hv with hA _ _
        injection hA with hA
        injection hA
    subst this
    exact l00Own_any b o c n zs w hr hn
  | none =>
    have hn0 : n = 0 := by
      rcases h.2 with ⟨_, h0⟩ | ⟨g, cap, cur, hv, _⟩
      · exact h0
      · injection hv with hA _ _; cases hA
    subst hn0
    have hz : zs = [] := by have := h.1; rw [iv_len] at this; exact List.eq_nil_of_length_eq_zero (by omega)
    subst hz
    have O0 := Lib.hid (own_empty w 2)
    have b0 := Lib.hid ((Below.refl w.heap.size w).alloc (Nat.le_refl _) (.cells #[] 2))
    clear h
    go_enter Try.func64, Try.ntmps64
    go_wp2
    go_ret
    exact ⟨_, rfl, O0.out, b0.out⟩
section
variable (g : Nat) (LA GA : Option Addr) (n lc gc : Nat) (most share : Int) (budget : Nat)
/-- what the reference's search keeps -/
def NextAt (w : World) (own forces : List Int) (nodes : Nat) (st : SSt) (v1 v2 v3 : Value) : Prop :=
  Blk w g 86 #[.slice LA n lc, .slice GA n gc, .int .i64 most, .int .i64 share, v1, v2, .int .i64 st.count, v3, .int .i64 st.least, .int .i64 nodes, .int .i64 budget] ∧ Own3 w (g + 1) v1 v2 v3 own forces st.best
end
def NextE (g : Nat) (LA GA : Option Addr) (n lc gc : Nat) (most share : Int) (budget : Nat) (w : World) (own forces : List Int) (v1 v2 : Value) (r : Option SSt) (e : Ending) (w' : World) : Prop :=
  e = .returned (.bool r.isNone) ∧ Frm w w' g v1 v2 ∧ ∀ s2, r = some s2 → ∃ (nodes : Nat) (v1' v2' v3' : Value), nodes + s2.left = budget ∧ NextAt g LA GA n lc gc most share budget w' own forces nodes s2 v1' v2' v3' ∧ Nw w v1 v1' ∧ Nw w v2 v2'
def NextH (cs : List CordD) (gs : List (List Int)) (g : Nat) (LA GA : Option Addr) (n lc gc : Nat) (most share : Int) (budget : Nat) (d : Nat) (w : World) (own forces : List Int) (sum : Int) (st : SSt) (nodes : Nat) (v1 v2 v3 : Value) : Prop :=
  own.length + d = n ∧ forces.length = own.length ∧ nodes + st.left = budget ∧ NextAt g LA GA n lc gc most share budget w own forces nodes st v1 v2 v3 ∧ Rd w g 4 LA n (cs.flatMap cordF) ∧ Rd2 w 0 g GA n gs ∧ tsOk forces ∧ (0 ≤ sum ∧ sum ≤ 10000000 * own.length) ∧ st.count + st.left ≤ 20000 ∧ budget ≤ 20000
theorem Own3.drewN {w : World} {L : Nat} {v1 v2 v3 : Value} {xs ys zs : List Int} (h : Own3 w L v1 v2 v3 xs ys zs) (m : Nat) : Own3 (w.drewN m) L v1 v2 v3 xs ys zs := ⟨h.o1, h.o2, h.o3, h.d12, h.d13, h.d23⟩
section
variable (cs : List CordD) (gs : List (List Int)) (g : Nat) (LA GA : Option Addr) (n lc gc : Nat) (most share : Int) (budget : Nat)
set_option maxRecDepth 100000 in
set_option maxHeartbeats 4000000 in
theorem next_z (n4 : n ≤ 4) (w : World) (own forces : List Int) (sum : Int) (st : SSt) (nodes : Nat) (v1 v2 v3 : Value) (h : NextH cs gs g LA GA n lc gc most share budget 0 w own forces sum st nodes v1 v2 v3) :
    Calls Try.prog 60 #[.pointer (some ⟨g, 0, none⟩), .int .i64 sum] w (NextE g LA GA n lc gc most share budget w own forces v1 v2 (srch cs gs most share 0 own forces sum st)) := by
  obtain ⟨h1, h2, hb, h3, h4, h5, h6, h7, h8, h9⟩ := h
  obtain ⟨K, O⟩ := h3
  obtain ⟨left, count, best, least⟩ := st
  obtain ⟨A1, c1, rfl⟩ := own_val O.o1
  obtain ⟨A2, c2, rfl⟩ := own_val O.o2
  have q2 : forces.length = n := by omega
  have q1 : own.length = n := by omega
  rw [q1] at K O ⊢
  rw [q2] at K O ⊢
  simp only at K O hb h8
  have k8 : count + left ≤ 20000 := h8
  obtain ⟨nn, hnn⟩ : ∃ nn, nn = nodes + 1 := ⟨_, rfl⟩
  have e1 : (nodes : Int) + 1 = nn := by omega
  have hc := K.cell
  have hf := K.frozen
  have K2 := K.set_ 9 (.int .i64 nn)
  have O2 := O.setb (p := ⟨g, 9, none⟩) (by simp) (.int .i64 nn)
  have F2 := Lib.hid (Frm.setg w g 9 (.int .i64 nn) (.slice A1 n c1) (.slice A2 n c2))
  have n20 : nodes ≤ 20000 := by omega
  have HB := Lib.hid hb
  have HNN := Lib.hid hnn
  have H6 := Lib.hid h6
  clear h1 h2 h4 h5 h7 h8 K O hb hnn h6
  by_cases l0 : left = 0
  · subst l0
    have HE : Hid (srch cs gs most share 0 own forces sum ⟨0, count, best, least⟩ = none) := Lib.hid (by rw [srch]; rfl)
    have g1 : decide (budget < nn) = true := decide_eq_true (by have := HB.out; have := HNN.out; omega)
    have g2 : decide ((budget : Int) < nn) = true := decide_eq_true (by have := HB.out; have := HNN.out; omega)
    have g3 : (budget : Int) < nn := by have := HB.out; have := HNN.out; omega
    go_enter Try.func60, Try.ntmps60
    go_wp2_with fail
    generalize w.setCell ⟨g, 9, none⟩ (.int .i64 nn) = W at K2 O2 F2 ⊢
    clear hc hf
    simp at K2
    have hc := K2.cell
    go_quiet (fail)
    go_wp2
    go_ret
    exact ⟨by rw [HE.out]; rfl, F2.out.drewN _, by rw [HE.out]; intro s2 h; cases h⟩
  · obtain ⟨l, hl⟩ : ∃ l, left = l + 1 := ⟨left - 1, by omega⟩
    have HL := Lib.hid hl
    have HL0 := Lib.hid l0
    have hbn : Hid (nn + l = budget) := Lib.hid (by have := HB.out; have := HNN.out; omega)
    clear hl l0
    have g1 : decide (budget < nn) = false := decide_eq_false (by have := hbn.out; omega)
    have g2 : decide ((budget : Int) < nn) = false := decide_eq_false (by have := hbn.out; omega)
    have g3 : ¬ (budget : Int) < nn := by have := hbn.out; omega
    go_enter Try.func60, Try.ntmps60
    go_wp2_with fail
    generalize w.setCell ⟨g, 9, none⟩ (.int .i64 nn) = W at K2 O2 F2 ⊢
    clear hc hf
    simp at K2
    have hc := K2.cell
    go_quiet (fail)
    clear hc
    have K2 := K2.drewN nq
    have O2 := O2.drewN nq
    have F2 := Lib.hid (F2.out.drewN nq)
    generalize W.drewN nq = W2 at K2 O2 F2 ⊢
    have hc := K2.cell
    have hf := K2.frozen
    obtain ⟨ct, hct⟩ : ∃ ct, ct = count + 1 := ⟨_, rfl⟩
    have e2 : (count : Int) + 1 = ct := by omega
    have K3 := K2.set_ 6 (.int .i64 ct)
    have O3 := O2.setb (p := ⟨g, 6, none⟩) (by simp) (.int .i64 ct)
    have F3 := Lib.hid (F2.out.more (Frm.setg _ g 6 (.int .i64 ct) _ _))
    have HCT := Lib.hid hct
    clear K2 O2 F2 hct
    go_upto_region 7 with fail
    clear hc hf
    generalize W2.setCell ⟨g, 6, none⟩ (.int .i64 ct) = W3 at K3 O3 F3 ⊢
    simp at K3
    have K3 := Lib.hid K3
    have o2 := O3.o2
    rw [q2] at o2
    have R3 := Lib.hid (Rd.own o2)
    have O3 := Lib.hid O3
    have HN := Lib.hid q2
    have HQ1 := Lib.hid q1
    have Cap := own_cap o2
    have HGP : Hid (sprTo forces n = spr forces) := Lib.hid (by rw [spr, q2])
    have W0 := Lib.hid (Below.refl W3.heap.size W3)
    clear o2 q2 q1 g1 g2 g3
    have hg3 := K3.out.lt
    go_wp2_with fail
    go_loopw [7, 6] (fun i m wr => ∃ (k : Nat) (x : Int), k ≤ n ∧ i = .int .i64 k ∧ m = .int .i64 x ∧ Hid (x = sprTo forces k) ∧ (0 ≤ x ∧ x ≤ 10000000) ∧ Hid (Below W3.heap.size W3 wr)) (fun i _ _ => n - (intOf i).toNat)
    case atStart => exact ⟨0, 0, by omega, rfl, rfl, Lib.hid rfl, by omega, W0⟩
    case round =>
      obtain ⟨k, x, hk, rfl, rfl, HX, xb, hb⟩ := hrel
      have KR := K3.out.below hb.out hg3
      have hc := KR.cell
      by_cases hlt : k < n
      · obtain ⟨a, ha, _⟩ := getD_of (l := forces) (i := k) (by rw [HN.out]; exact hlt)
        obtain ⟨b, o, rfl, hbB, hcs⟩ := R3.out.ints (by omega)
        have ab := ts_at H6.out ha
        have HS : Hid (sprTo forces (k + 1) = spr1 forces a x k) := Lib.hid (by rw [sprTo, HX.out, getD_ok ha])
        have CA := Lib.hid (hcs k a ha)
        have CS := Lib.hid hcs
        clear hcs ha KR
        go_wp2
        clear hc
        go_loopw [8, 6] (fun i m wr => ∃ (j : Nat) (y : Int), j ≤ k ∧ i = .int .i64 j ∧ m = .int .i64 y ∧ Hid (y = spr1 forces a x j) ∧ (0 ≤ y ∧ y ≤ 10000000) ∧ Hid (Below W3.heap.size W3 wr)) (fun i _ _ => k - (intOf i).toNat)
        case atStart => exact ⟨0, x, by omega, rfl, rfl, Lib.hid rfl, xb, hb⟩
        case round =>
          obtain ⟨j, y, hj, rfl, rfl, HY, yb, hb⟩ := hrel
          by_cases hlt2 : j < k
          · obtain ⟨z, hz, _⟩ := getD_of (l := forces) (i := j) (by rw [HN.out]; omega)
            have KR := K3.out.below hb.out hg3
            have hc := bel_cell KR KR.lt
            have c0 := bel_at (B := wr.heap.size) ((hb.out.cell (p := ⟨b, o + k, none⟩) hbB).trans CA.out) (by have := hb.out.size; omega)
            have c1 := bel_at (B := wr.heap.size) ((hb.out.cell (p := ⟨b, o + j, none⟩) hbB).trans (CS.out j z hz)) (by have := hb.out.size; omega)
            have zb := ts_at H6.out hz
            have HS2 : Hid (max y (max (a - z) (z - a)) = spr1 forces a x (j + 1)) := Lib.hid (by rw [spr1, ← HY.out, getD_ok hz])
            obtain ⟨d, hd⟩ : ∃ d, d = max (a - z) (z - a) := ⟨_, rfl⟩
            have CD : Hid (∀ w, Calls Try.prog 89 #[.int .i64 a, .int .i64 z] w fun e w' => e = .returned (.int .i64 d) ∧ w = w') := Lib.hid fun w => by rw [hd]; exact l03Abs_any a z w ab.1 (by omega) zb.1 (by omega)
            rw [← hd] at HS2
            have db : 0 ≤ d ∧ d ≤ 10000000 := by omega
            clear hd hz KR
            go_wp2_with fail
            (refine wp_region_bel wr.heap.size wr (Below.refl _ _) (by kernel_rfl) (by kernel_rfl) ?_; (repeat (go_big_quiet_step ((first | (go_at_call 89; exact bel_same (CD.out _)) | (go_at_call 88; exact bel_same (l00Max_any _ _ _)))))); refine wpQuiet_nil ?_; rintro wx ⟨⟨_, hbx⟩, rfl⟩)
            have B4 := Lib.hid (below_more hb.out hbx (Nat.le_refl _))
            clear c0 c1 hc hbx
            go_wp2
            go_roundw
            case rel => exact ⟨j + 1, max y d, by omega, by go_num, rfl, HS2, by omega, B4⟩
            case measure => simp [intOf]; omega
          · obtain rfl : j = k := by omega
            go_wp2
            go_roundw
            case rel => exact ⟨j + 1, y, by omega, by go_num, rfl, Lib.hid (by rw [HS.out]; exact HY.out), yb, hb⟩
            case measure => simp [intOf]; omega
      · obtain rfl : k = n := by omega
        have HXG : Hid (x = spr forces) := Lib.hid (by rw [HX.out, HGP.out])
        have O4 := O3.out.keep hb.out
        have F4 := Lib.hid (F3.out.more (Frm.of_below hb.out g _ _))
        have hf := KR.frozen
        have o1 := O4.o1
        rw [HQ1.out] at o1
        have gk := KR.lt
        by_cases hc0 : count = 0
        · have HE : Hid (srch cs gs most share 0 own forces sum ⟨left, count, best, least⟩ = some ⟨l, ct, own, x⟩) := Lib.hid (by rw [srch, if_neg HL0.out, leafS, if_pos (.inl hc0), HXG.out, HL.out, HCT.out]; rfl)
          have z2 : ((ct : Int) == 1) = true := by have := HCT.out; simp; omega
          have HC0 := Lib.hid hc0
          have K5 := KR.set_ 8 (.int .i64 x)
          have O5 := O4.setb (p := ⟨g, 8, none⟩) (by simp) (.int .i64 x)
          have F5 := Lib.hid (F4.out.more (Frm.setg _ g 8 (.int .i64 x) _ _))
          clear hc0 O4 o1 KR
          go_upto_region 17 with fail
          clear hc hf
          generalize wr.setCell ⟨g, 8, none⟩ (.int .i64 x) = W5 at K5 O5 F5 ⊢
          simp at K5
          have hc := K5.cell
          have o1 := O5.o1
          rw [HQ1.out] at o1
          have CC := l00Own_own _ k c1 A1 own W5 o1 (by omega)
          have g5 := K5.lt
          have K5 := Lib.hid K5
          have O5 := Lib.hid O5
          clear o1
          go_wp2_with fail
          refine CC.mono ?_
          rintro r w6 ⟨v, rfl, hv, hb6⟩
          obtain ⟨Av, cv, rfl⟩ := own_val hv
          have cc := (K5.out.below hb6 g5).cell
          have ff := (K5.out.below hb6 g5).frozen
          have K7 := (K5.out.below hb6 g5).set_ 7 (.slice Av k cv)
          have O7 := Lib.hid ((O5.out.third hb6 hv HQ1.out g5).setb (p := ⟨g, 7, none⟩) (by simp) (.slice Av k cv))
          have F7 := Lib.hid ((F5.out.more (Frm.of_below hb6 g _ _)).more (Frm.setg _ g 7 (.slice Av k cv) _ _))
          simp at K7
          have K7 := Lib.hid K7
          clear hc CC hv hb6
          go_wp2
          go_ret
          exact ⟨by rw [HE.out]; rfl, F7.out, by rw [HE.out]; intro s2 h; injection h with h; subst h; exact ⟨nn, _, _, _, hbn.out, ⟨K7.out, O7.out⟩, Nw.refl _ _, Nw.refl _ _⟩⟩
        · have z2 : ((ct : Int) == 1) = false := by have := HCT.out; rw [Bool.eq_false_iff]; simp; omega
          have HC0 := Lib.hid hc0
          clear hc0
          by_cases hls : x < least
          · have HE : Hid (srch cs gs most share 0 own forces sum ⟨left, count, best, least⟩ = some ⟨l, ct, own, x⟩) := Lib.hid (by rw [srch, if_neg HL0.out, leafS, if_pos (.inr (by rw [← HXG.out]; exact hls)), HXG.out, HL.out, HCT.out]; rfl)
            have K5 := KR.set_ 8 (.int .i64 x)
            have O5 := O4.setb (p := ⟨g, 8, none⟩) (by simp) (.int .i64 x)
            have F5 := Lib.hid (F4.out.more (Frm.setg _ g 8 (.int .i64 x) _ _))
            clear O4 o1 KR
            go_upto_region 17 with fail
            clear hc hf
            generalize wr.setCell ⟨g, 8, none⟩ (.int .i64 x) = W5 at K5 O5 F5 ⊢
            simp at K5
            have hc := K5.cell
            have o1 := O5.o1
            rw [HQ1.out] at o1
            have CC := l00Own_own _ k c1 A1 own W5 o1 (by omega)
            have g5 := K5.lt
            have K5 := Lib.hid K5
            have O5 := Lib.hid O5
            clear o1
            go_wp2_with fail
            refine CC.mono ?_
            rintro r w6 ⟨v, rfl, hv, hb6⟩
            obtain ⟨Av, cv, rfl⟩ := own_val hv
            have cc := (K5.out.below hb6 g5).cell
            have ff := (K5.out.below hb6 g5).frozen
            have K7 := (K5.out.below hb6 g5).set_ 7 (.slice Av k cv)
            have O7 := Lib.hid ((O5.out.third hb6 hv HQ1.out g5).setb (p := ⟨g, 7, none⟩) (by simp) (.slice Av k cv))
            have F7 := Lib.hid ((F5.out.more (Frm.of_below hb6 g _ _)).more (Frm.setg _ g 7 (.slice Av k cv) _ _))
            simp at K7
            have K7 := Lib.hid K7
            clear hc CC hv hb6
            go_wp2
            go_ret
            exact ⟨by rw [HE.out]; rfl, F7.out, by rw [HE.out]; intro s2 h; injection h with h; subst h; exact ⟨nn, _, _, _, hbn.out, ⟨K7.out, O7.out⟩, Nw.refl _ _, Nw.refl _ _⟩⟩
          · have HE : Hid (srch cs gs most share 0 own forces sum ⟨left, count, best, least⟩ = some ⟨l, ct, best, least⟩) := Lib.hid (by rw [srch, if_neg HL0.out, leafS, if_neg (by rintro (h | h); exact HC0.out h; rw [← HXG.out] at h; exact hls h), HL.out, HCT.out]; rfl)
            have K7 := Lib.hid KR
            have O7 := Lib.hid O4
            clear o1 KR O4
            go_wp2
            go_ret
            exact ⟨by rw [HE.out]; rfl, F4.out, by rw [HE.out]; intro s2 h; injection h with h; subst h; exact ⟨nn, _, _, _, hbn.out, ⟨K7.out, O7.out⟩, Nw.refl _ _, Nw.refl _ _⟩⟩
end
end Go.Proofs.Ytemkggecempmgaa
