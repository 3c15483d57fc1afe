/- Set-ups of strings: the program's search. -/
import Derived.Test.YtemkggecempmgaaSearchP
import Derived.StillTailTactics
set_option linter.unusedVariables false
namespace Go.Proofs.Ytemkggecempmgaa
open Go.RowKit

set_option maxRecDepth 100000 in
/-- the clone of a row of the call's own -/
theorem clone_own (L n c : Nat) (A : Option Addr) (zs : List Int) (w : World) (h : w.ownsRow L 2 1 (.slice A n c) n (iv zs)) (hn : n ≤ 1048576) :
    Calls Try.prog 100 #[.slice A n c] w (RetV 2 w n zs) := by
  cases A with
  | some a =>
    have hr := Rd.own h
    obtain ⟨b, o, s⟩ := a
    have : s = none := by
      rcases h.2 with ⟨hv, _⟩ | ⟨g, cap, cur, hv, _⟩
      · cases hv
      · injection hv with hA _ _
        injection hA with hA
        injection hA
    subst this
    exact clone_any b o c n zs w hr hn
  | none =>
    have hn0 : n = 0 := by
      rcases h.2 with ⟨_, h0⟩ | ⟨g, cap, cur, hv, _⟩
      · exact h0
      · injection hv with hA _ _; cases hA
    subst hn0
    have hz : zs = [] := by have := h.1; rw [iv_len] at this; exact List.eq_nil_of_length_eq_zero (by omega)
    subst hz
    obtain ⟨cs, hcs, hmk⟩ := make0_run (P := Try.prog) Try.underlying29 info64 0 (by omega) (by unfold maxLen; omega)
    have O0 := Lib.hid (World.ownsRow_made (base := w.heap.size) (e := 2) (size := 1) w cs 0 (Nat.le_refl _) (by unfold maxLen; omega) hcs)
    have b0 := Lib.hid ((Below.refl w.heap.size w).alloc (Nat.le_refl _) (.cells cs 2))
    have hmk0 := hmk w
    rw [show ((0 : Nat) : Int) = 0 from rfl] at hmk0
    clear h hcs hmk
    go_enter Try.func100, Try.ntmps100
    go_wp2
    go_ret
    exact ⟨_, rfl, O0.out, b0.out⟩
section
variable (g : Nat) (LA GA : Option Addr) (n lc gc : Nat) (most share : Int)
def SetAt (w : World) (given tens : List Int) (sum : Int) (st : SSt) (v1 v2 v3 : Value) : Prop :=
  Blk w g 75 #[.slice LA n lc, .slice GA n gc, .int .i64 most, .int .i64 share, .int .i64 st.left, v1, v2, .int .i64 sum, .int .i64 st.count, v3, .int .i64 st.least] ∧ Own3 w (g + 1) v1 v2 v3 given tens st.best
end
/-- what a search answers -/
def SrchE (g : Nat) (LA GA : Option Addr) (n lc gc : Nat) (most share : Int) (w : World) (given tens : List Int) (sum : Int) (v1 v2 : Value) (r : Option SSt) (e : Ending) (w' : World) : Prop :=
  ∃ (st' : SSt) (v1' v2' v3' : Value), e = .returned (.bool r.isSome) ∧ (∀ s2, r = some s2 → st' = s2) ∧ SetAt g LA GA n lc gc most share w' given tens sum st' v1' v2' v3' ∧ Frm w w' g v1 v2 ∧ Nw w v1 v1' ∧ Nw w v2 v2'
theorem Own3.third {w w' : World} {g n : Nat} {v1 v2 v3 v : Value} {xs ys zs us : List Int} (h : Own3 w (g + 1) v1 v2 v3 xs ys zs) (hb : Below w.heap.size w w') (hv : w'.ownsRow w.heap.size 2 1 v n (iv us)) (hn : us.length = n) (hg : g < w.heap.size) : Own3 w' (g + 1) v1 v2 v xs ys us := by
  subst hn
  refine ⟨own_below h.o1 hb, own_below h.o2 hb, hv.mono (by omega), h.d12, fun k hk e => ?_, fun k hk e => ?_⟩
  · have a := (h.o1.lt k hk).2
    have b := (hv.lt k e).1
    omega
  · have a := (h.o2.lt k hk).2
    have b := (hv.lt k e).1
    omega
theorem Frm.more {w w' w'' : World} {g : Nat} {v1 v2 : Value} (h : Frm w w' g v1 v2) (k : Frm w' w'' g v1 v2) : Frm w w'' g v1 v2 := h.trans k (Nw.refl _ _) (Nw.refl _ _)
theorem own_len {w : World} {L n : Nat} {v : Value} {zs : List Int} (h : w.ownsRow L 2 1 v n (iv zs)) : zs.length = n := by have := h.1; rw [iv_len] at this; omega
section
variable (cs : List CordD) (gs : List (List Int)) (g : Nat) (LA GA : Option Addr) (n lc gc : Nat) (most share : Int)
/-- what a search is told -/
def SrchH (cs : List CordD) (gs : List (List Int)) (g : Nat) (LA GA : Option Addr) (n lc gc : Nat) (most share : Int) (d : Nat) (w : World) (given tens : List Int) (sum : Int) (st : SSt) (v1 v2 v3 : Value) : Prop :=
  given.length + d = n ∧ tens.length = given.length ∧ SetAt g LA GA n lc gc most share w given tens sum st v1 v2 v3 ∧ Rd w g 4 LA n (cs.flatMap cordF) ∧ Rd2 w 0 g GA n gs ∧ tsOk tens ∧ (0 ≤ sum ∧ sum ≤ 10000000 * given.length) ∧ st.count + st.left ≤ 20000
set_option maxRecDepth 100000 in
set_option maxHeartbeats 4000000 in
theorem search_z (n4 : n ≤ 4) (w : World) (given tens : List Int) (sum : Int) (st : SSt) (v1 v2 v3 : Value) (h : SrchH cs gs g LA GA n lc gc most share 0 w given tens sum st v1 v2 v3) :
    Calls Try.prog 82 #[.pointer (some ⟨g, 0, none⟩)] w (SrchE g LA GA n lc gc most share w given tens sum v1 v2 (srch cs gs most share 0 given tens sum st)) := by
  obtain ⟨h1, h2, h3, h4, h5, h6, h7, h8⟩ := h
  obtain ⟨K, O⟩ := h3
  obtain ⟨left, count, best, least⟩ := st
  obtain ⟨A1, c1, rfl⟩ := own_val O.o1
  obtain ⟨A2, c2, rfl⟩ := own_val O.o2
  have q2 : tens.length = n := by omega
  have q1 : given.length = n := by omega
  rw [q1] at K O ⊢
  rw [q2] at K O ⊢
  have HK := Lib.hid K
  have HO := Lib.hid O
  have k8 : count + left ≤ 20000 := h8
  clear h1 h2 h4 h5 h7 h8 K O
  by_cases l0 : left = 0
  · subst l0
    have HE : Hid (srch cs gs most share 0 given tens sum ⟨0, count, best, least⟩ = none) := Lib.hid (by rw [srch]; rfl)
    have hc := HK.out.cell
    go_enter Try.func82, Try.ntmps82
    go_wp2
    go_ret
    exact ⟨⟨0, count, best, least⟩, .slice A1 n c1, .slice A2 n c2, v3, by rw [HE.out]; rfl, (by rw [HE.out]; intro s2 h; cases h), ⟨HK.out, HO.out⟩, Frm.refl _ _ _ _, Nw.refl _ _, Nw.refl _ _⟩
  · obtain ⟨l, hl⟩ : ∃ l, left = l + 1 := ⟨left - 1, by omega⟩
    have e1 : (left : Int) - 1 = l := by omega
    have HL := Lib.hid hl
    clear hl
    have l1 : 1 ≤ (left : Int) := by omega
    have hc := HK.out.cell
    have hf := HK.out.frozen
    have K2 := HK.out.set_ 4 (.int .i64 l)
    have O2 := HO.out.setb (p := ⟨g, 4, none⟩) (by simp) (.int .i64 l)
    have F2 := Lib.hid (Frm.setg w g 4 (.int .i64 l) (.slice A1 n c1) (.slice A2 n c2))
    have CN := HK.out.lt
    clear HK HO
    go_enter Try.func82, Try.ntmps82
    go_wp2_with fail
    generalize w.setCell ⟨g, 4, none⟩ (.int .i64 l) = W at K2 O2 F2 ⊢
    have hgW := K2.lt
    clear hc hf
    simp at K2
    have hc := K2.cell
    have K2 := Lib.hid K2
    have o2 := O2.o2
    rw [q2] at o2
    have CS := spread_any g n c2 A2 tens W (by simpa using hc 6) (Rd.own o2) (by omega) (own_cap o2) h6
    have o1 := O2.o1
    rw [q1] at o1
    have CC := Lib.hid (clone_own _ n c1 A1 given W o1 (by omega))
    have O2 := Lib.hid O2
    obtain ⟨gap, hgap⟩ : ∃ gap, gap = spr tens := ⟨_, rfl⟩
    rw [← hgap] at CS
    have HG := Lib.hid hgap
    clear o1 o2 hgap
    have hf := K2.out.frozen
    obtain ⟨ct, hct⟩ : ∃ ct, ct = count + 1 := ⟨_, rfl⟩
    have e2 : (count : Int) + 1 = ct := by omega
    have HCT := Lib.hid hct
    clear hct
    by_cases hc0 : count = 0
    · have HE : Hid (srch cs gs most share 0 given tens sum ⟨left, count, best, least⟩ = some ⟨l, ct, given, gap⟩) := Lib.hid (by rw [srch, if_neg l0, leafS, if_pos (.inl hc0), HG.out, HL.out, HCT.out]; rfl)
      have z2 : ((count : Int) == 0) = true := by simp; omega
      have HC0 := Lib.hid hc0
      clear hc0
      go_wp2_with ((go_at_call 99; refine (CS).mono ?_; rintro e w' ⟨rfl, rfl⟩))
      refine CC.out.mono ?_
      rintro r w2 ⟨v, rfl, hv, hb2⟩
      obtain ⟨Av, cv, rfl⟩ := own_val hv
      have K3 := (((K2.out.below hb2 hgW).set_ 9 (.slice Av n cv)).set_ 10 (.int .i64 gap)).set_ 8 (.int .i64 ct)
      have O3 := (((O2.out.third hb2 hv q1 hgW).setb (p := ⟨g, 9, none⟩) (by simp) (.slice Av n cv)).setb (p := ⟨g, 10, none⟩) (by simp) (.int .i64 gap)).setb (p := ⟨g, 8, none⟩) (by simp) (.int .i64 ct)
      have F3 := Lib.hid ((((F2.out.more (Frm.of_below hb2 g _ _)).more (Frm.setg _ g 9 (.slice Av n cv) _ _)).more (Frm.setg _ g 10 (.int .i64 gap) _ _)).more (Frm.setg _ g 8 (.int .i64 ct) _ _))
      have cc2 := (K2.out.below hb2 hgW).cell
      have f2 := (K2.out.below hb2 hgW).frozen
      simp at K3
      have HK3 := Lib.hid K3
      have HO3 := Lib.hid O3
      clear K3 O3 hb2 hv hc hf CC CS K2 O2
      go_wp2
      go_ret
      exact ⟨⟨l, ct, given, gap⟩, .slice A1 n c1, .slice A2 n c2, .slice Av n cv, by rw [HE.out]; rfl, (by rw [HE.out]; intro s2 h; injection h), ⟨HK3.out, HO3.out⟩, F3.out, Nw.refl _ _, Nw.refl _ _⟩
    · have z2 : ((count : Int) == 0) = false := by rw [Bool.eq_false_iff]; simp; omega
      have HC0 := Lib.hid hc0
      clear hc0
      by_cases hls : gap < least
      · have HE : Hid (srch cs gs most share 0 given tens sum ⟨left, count, best, least⟩ = some ⟨l, ct, given, gap⟩) := Lib.hid (by rw [srch, if_neg l0, leafS, if_pos (.inr (by rw [← HG.out]; exact hls)), HG.out, HL.out, HCT.out]; rfl)
        go_wp2_with ((go_at_call 99; refine (CS).mono ?_; rintro e w' ⟨rfl, rfl⟩))
        refine CC.out.mono ?_
        rintro r w2 ⟨v, rfl, hv, hb2⟩
        obtain ⟨Av, cv, rfl⟩ := own_val hv
        have K3 := (((K2.out.below hb2 hgW).set_ 9 (.slice Av n cv)).set_ 10 (.int .i64 gap)).set_ 8 (.int .i64 ct)
        have O3 := (((O2.out.third hb2 hv q1 hgW).setb (p := ⟨g, 9, none⟩) (by simp) (.slice Av n cv)).setb (p := ⟨g, 10, none⟩) (by simp) (.int .i64 gap)).setb (p := ⟨g, 8, none⟩) (by simp) (.int .i64 ct)
        have F3 := Lib.hid ((((F2.out.more (Frm.of_below hb2 g _ _)).more (Frm.setg _ g 9 (.slice Av n cv) _ _)).more (Frm.setg _ g 10 (.int .i64 gap) _ _)).more (Frm.setg _ g 8 (.int .i64 ct) _ _))
        have cc2 := (K2.out.below hb2 hgW).cell
        have f2 := (K2.out.below hb2 hgW).frozen
        simp at K3
        have HK3 := Lib.hid K3
        have HO3 := Lib.hid O3
        clear K3 O3 hb2 hv hc hf CC CS K2 O2
        go_wp2
        go_ret
        exact ⟨⟨l, ct, given, gap⟩, .slice A1 n c1, .slice A2 n c2, .slice Av n cv, by rw [HE.out]; rfl, (by rw [HE.out]; intro s2 h; injection h), ⟨HK3.out, HO3.out⟩, F3.out, Nw.refl _ _, Nw.refl _ _⟩
      · have HE : Hid (srch cs gs most share 0 given tens sum ⟨left, count, best, least⟩ = some ⟨l, ct, best, least⟩) := Lib.hid (by rw [srch, if_neg l0, leafS, if_neg (by rintro (h | h); exact HC0.out h; rw [← HG.out] at h; exact hls h), HL.out, HCT.out]; rfl)
        have K3 := K2.out.set_ 8 (.int .i64 ct)
        have O3 := O2.out.setb (p := ⟨g, 8, none⟩) (by simp) (.int .i64 ct)
        have F3 := Lib.hid (F2.out.more (Frm.setg _ g 8 (.int .i64 ct) _ _))
        simp at K3
        have HK3 := Lib.hid K3
        have HO3 := Lib.hid O3
        clear K3 O3 CC O2
        go_wp2_with ((go_at_call 99; refine (CS).mono ?_; rintro e w' ⟨rfl, rfl⟩))
        go_ret
        exact ⟨⟨l, ct, best, least⟩, .slice A1 n c1, .slice A2 n c2, v3, by rw [HE.out]; rfl, (by rw [HE.out]; intro s2 h; injection h), ⟨HK3.out, HO3.out⟩, F3.out, Nw.refl _ _, Nw.refl _ _⟩
end
end Go.Proofs.Ytemkggecempmgaa
