/- Policies: one beats another. -/
import Derived.Test.YtgbpkblhokjbbaaPolicyFns
set_option linter.unusedVariables false
namespace Go.Proofs.Ytgbpkblhokjbbaa
open Go.RowKit

def btP (a1 a2 a3 a4 b1 b2 b3 b4 : Int) : Bool := decide (a1 ≤ b1) && (decide (b2 ≤ a2) && (decide (a3 ≤ b3) && decide (b4 ≤ a4)))
def btI (a1 a2 a3 a4 b1 b2 b3 b4 : Int) : Bool := btP a1 a2 a3 a4 b1 b2 b3 b4 && !btP b1 b2 b3 b4 a1 a2 a3 a4
abbrev polC (s : ByteArray) (a1 a2 a3 a4 : Int) : Array Value := #[.string s, .int .i64 a1, .int .i64 a2, .int .i64 a3, .int .i64 a4]
theorem dec_f {p : Prop} [Decidable p] (h : ¬ p) : decide p = false := by simpa using h
theorem dec_t {p : Prop} [Decidable p] (h : p) : decide p = true := by simpa using h
set_option maxHeartbeats 2000000 in
theorem l23Beats_any (s t : ByteArray) (a1 a2 a3 a4 b1 b2 b3 b4 : Int) (N M : Nat) (w : World)
    (hk : Blk w N 26 #[.string s, .int .i64 a1, .int .i64 a2, .int .i64 a3, .int .i64 a4]) (hl : Blk w M 26 #[.string t, .int .i64 b1, .int .i64 b2, .int .i64 b3, .int .i64 b4]) :
    Calls Try.prog 48 #[.pointer (some ⟨N, 0, none⟩), .pointer (some ⟨M, 0, none⟩)] w fun e w' => e = .returned (.bool (btP a1 a2 a3 a4 b1 b2 b3 b4)) ∧ Below w.heap.size w w' := by
  have c1 := bel_cell hk hk.lt
  have c2 := bel_cell hl hl.lt
  by_cases h1 : a1 ≤ b1
  · have d1 := dec_t h1
    by_cases h2 : b2 ≤ a2
    · have d2 := dec_t h2
      by_cases h3 : a3 ≤ b3
      · have d3 := dec_t h3
        rw [show btP a1 a2 a3 a4 b1 b2 b3 b4 = decide (b4 ≤ a4) by simp [btP, h1, h2, h3]]
        go_enter Try.func48, Try.ntmps48
        go_wp2_with fail
        (refine wp_region_bel w.heap.size w (Below.refl _ _) (by kernel_rfl) (by kernel_rfl) ?_; (repeat (go_big_quiet_step ((first | fail)))); refine wpQuiet_nil ?_; rintro w1 ⟨⟨_, hb1⟩, rfl⟩)
        clear c1 c2
        go_wp2
        go_ret
        exact ⟨rfl, hb1⟩
      · have d3 := dec_f h3
        rw [show btP a1 a2 a3 a4 b1 b2 b3 b4 = false by simp [btP, h3]]
        go_enter Try.func48, Try.ntmps48
        go_wp2_with fail
        (refine wp_region_bel w.heap.size w (Below.refl _ _) (by kernel_rfl) (by kernel_rfl) ?_; (repeat (go_big_quiet_step ((first | fail)))); refine wpQuiet_nil ?_; rintro w1 ⟨⟨_, hb1⟩, rfl⟩)
        clear c1 c2
        go_wp2
        go_ret
        exact ⟨rfl, hb1⟩
    · have d2 := dec_f h2
      rw [show btP a1 a2 a3 a4 b1 b2 b3 b4 = false by simp [btP, h2]]
      go_enter Try.func48, Try.ntmps48
      go_wp2_with fail
      (refine wp_region_bel w.heap.size w (Below.refl _ _) (by kernel_rfl) (by kernel_rfl) ?_; (repeat (go_big_quiet_step ((first | fail)))); refine wpQuiet_nil ?_; rintro w1 ⟨⟨_, hb1⟩, rfl⟩)
      clear c1 c2
      go_wp2
      go_ret
      exact ⟨rfl, hb1⟩
  · have d1 := dec_f h1
    rw [show btP a1 a2 a3 a4 b1 b2 b3 b4 = false by simp [btP, h1]]
    go_enter Try.func48, Try.ntmps48
    go_wp2_with fail
    (refine wp_region_bel w.heap.size w (Below.refl _ _) (by kernel_rfl) (by kernel_rfl) ?_; (repeat (go_big_quiet_step ((first | fail)))); refine wpQuiet_nil ?_; rintro w1 ⟨⟨_, hb1⟩, rfl⟩)
    clear c1 c2
    go_wp2
    go_ret
    exact ⟨rfl, hb1⟩
theorem l23Beats_is {s t : ByteArray} {a1 a2 a3 a4 b1 b2 b3 b4 : Int} {N M : Nat} {r : Bool} (h : btP a1 a2 a3 a4 b1 b2 b3 b4 = r) (w : World)
    (hk : Blk w N 26 #[.string s, .int .i64 a1, .int .i64 a2, .int .i64 a3, .int .i64 a4]) (hl : Blk w M 26 #[.string t, .int .i64 b1, .int .i64 b2, .int .i64 b3, .int .i64 b4]) :
    Calls Try.prog 48 #[.pointer (some ⟨N, 0, none⟩), .pointer (some ⟨M, 0, none⟩)] w fun e w' => e = .returned (.bool r) ∧ Below w.heap.size w w' := by
  rw [← h]; exact l23Beats_any _ _ _ _ _ _ _ _ _ _ N M w hk hl
theorem btI_f1 {a1 a2 a3 a4 b1 b2 b3 b4 : Int} (h : ¬ (a1 ≤ b1 ∧ b2 ≤ a2 ∧ a3 ≤ b3 ∧ b4 ≤ a4)) : false = btI a1 a2 a3 a4 b1 b2 b3 b4 := by
  symm
  rw [Bool.eq_false_iff]
  simp only [btI, btP, ne_eq, Bool.and_eq_true, decide_eq_true_eq, Bool.not_eq_true', Bool.and_eq_false_iff, decide_eq_false_iff_not, not_and]
  intro h1 h2
  exact absurd ⟨h1.1, h1.2.1, h1.2.2.1, h1.2.2.2⟩ h
theorem btI_f2 {a1 a2 a3 a4 b1 b2 b3 b4 : Int} (h : a1 = b1 ∧ a2 = b2 ∧ a3 = b3 ∧ a4 = b4) : false = btI a1 a2 a3 a4 b1 b2 b3 b4 := by
  obtain ⟨rfl, rfl, rfl, rfl⟩ := h
  simp [btI, btP]
theorem btI_t {a1 a2 a3 a4 b1 b2 b3 b4 : Int} (h : a1 ≤ b1 ∧ b2 ≤ a2 ∧ a3 ≤ b3 ∧ b4 ≤ a4) (g : ¬ (a1 = b1 ∧ a2 = b2 ∧ a3 = b3 ∧ a4 = b4)) : true = btI a1 a2 a3 a4 b1 b2 b3 b4 := by
  symm
  simp only [btI, btP, Bool.and_eq_true, decide_eq_true_eq, Bool.not_eq_true', Bool.and_eq_false_iff, decide_eq_false_iff_not]
  omega
set_option maxHeartbeats 4000000 in
theorem beats_any (s t : ByteArray) (a1 a2 a3 a4 b1 b2 b3 b4 : Int) (w : World) :
    Calls Try.prog 50 #[policyV s a1 a2 a3 a4, policyV t b1 b2 b3 b4] w fun e w' => e = .returned (.bool (btI a1 a2 a3 a4 b1 b2 b3 b4)) ∧ Below w.heap.size w w' := by
  have hB := Lib.hid (((Below.refl w.heap.size w).alloc (Nat.le_refl _) (.cells #[.string s, .int .i64 a1, .int .i64 a2, .int .i64 a3, .int .i64 a4] 26)).alloc (by simp) (.cells #[.string t, .int .i64 b1, .int .i64 b2, .int .i64 b3, .int .i64 b4] 26))
  by_cases e1 : a1 = b1
  · by_cases e2 : a2 = b2
    · by_cases e3 : a3 = b3
      · by_cases e4 : a4 = b4
        · have HF := Lib.hid (btI_f2 ⟨e1, e2, e3, e4⟩)
          subst e1 e2 e3 e4
          go_enter Try.func50, Try.ntmps50
          go_wp2
          go_ret
          exact ⟨ret_bool HF.out, hB.out⟩
        · have hn := Lib.hid (show ¬ (a1 = b1 ∧ a2 = b2 ∧ a3 = b3 ∧ a4 = b4) by omega)
          have g4 : (a4 == b4) = false := by simpa using e4
          have n4 : (a4 != b4) = true := by simpa using e4
          subst e1 e2 e3
          by_cases l4 : b4 ≤ a4
          all_goals
            go_enter Try.func50, Try.ntmps50
            go_wp2
            go_ret
            refine ⟨ret_bool ?_, hB.out⟩
            first | ((refine btI_t ?_ ?_) <;> omega) | (refine btI_f1 ?_; omega)
      · have hn := Lib.hid (show ¬ (a1 = b1 ∧ a2 = b2 ∧ a3 = b3 ∧ a4 = b4) by omega)
        have g3 : (a3 == b3) = false := by simpa using e3
        have n3 : (a3 != b3) = true := by simpa using e3
        subst e1 e2
        by_cases l3 : a3 ≤ b3
        · by_cases l4 : b4 ≤ a4
          all_goals
            go_enter Try.func50, Try.ntmps50
            go_wp2
            go_ret
            refine ⟨ret_bool ?_, hB.out⟩
            first | ((refine btI_t ?_ ?_) <;> omega) | (refine btI_f1 ?_; omega)
        · go_enter Try.func50, Try.ntmps50
          go_wp2
          go_ret
          exact ⟨ret_bool (by exact btI_f1 (by omega)), hB.out⟩
    · have hn := Lib.hid (show ¬ (a1 = b1 ∧ a2 = b2 ∧ a3 = b3 ∧ a4 = b4) by omega)
      have g2 : (a2 == b2) = false := by simpa using e2
      have n2 : (a2 != b2) = true := by simpa using e2
      subst e1
      by_cases l3 : a3 ≤ b3
      · by_cases l2 : b2 ≤ a2
        · by_cases l4 : b4 ≤ a4
          all_goals
            go_enter Try.func50, Try.ntmps50
            go_wp2
            go_ret
            refine ⟨ret_bool ?_, hB.out⟩
            first | ((refine btI_t ?_ ?_) <;> omega) | (refine btI_f1 ?_; omega)
        · go_enter Try.func50, Try.ntmps50
          go_wp2
          go_ret
          exact ⟨ret_bool (by exact btI_f1 (by omega)), hB.out⟩
      · go_enter Try.func50, Try.ntmps50
        go_wp2
        go_ret
        exact ⟨ret_bool (by exact btI_f1 (by omega)), hB.out⟩
  · have hn := Lib.hid (show ¬ (a1 = b1 ∧ a2 = b2 ∧ a3 = b3 ∧ a4 = b4) by omega)
    have g1 : (a1 == b1) = false := by simpa using e1
    have n1 : (a1 != b1) = true := by simpa using e1
    by_cases l1 : a1 ≤ b1
    · by_cases l3 : a3 ≤ b3
      · by_cases l2 : b2 ≤ a2
        · by_cases l4 : b4 ≤ a4
          all_goals
            go_enter Try.func50, Try.ntmps50
            go_wp2
            go_ret
            refine ⟨ret_bool ?_, hB.out⟩
            first | ((refine btI_t ?_ ?_) <;> omega) | (refine btI_f1 ?_; omega)
        · go_enter Try.func50, Try.ntmps50
          go_wp2
          go_ret
          exact ⟨ret_bool (by exact btI_f1 (by omega)), hB.out⟩
      · go_enter Try.func50, Try.ntmps50
        go_wp2
        go_ret
        exact ⟨ret_bool (by exact btI_f1 (by omega)), hB.out⟩
    · go_enter Try.func50, Try.ntmps50
      go_wp2
      go_ret
      exact ⟨ret_bool (by exact btI_f1 (by omega)), hB.out⟩
theorem beats_is {s t : ByteArray} {a1 a2 a3 a4 b1 b2 b3 b4 : Int} (w : World) :
    Calls Try.prog 50 #[policyV s a1 a2 a3 a4, policyV t b1 b2 b3 b4] w fun e w' => e = .returned (.bool (btI a1 a2 a3 a4 b1 b2 b3 b4)) ∧ Below w.heap.size w w' := beats_any _ _ _ _ _ _ _ _ _ _ w
def boB (s : ByteArray) (a1 a2 a3 a4 : Int) (t : ByteArray) (b1 b2 b3 b4 : Int) : Bool := policyB s a1 a2 a3 a4 && (policyB t b1 b2 b3 b4 && btI a1 a2 a3 a4 b1 b2 b3 b4)
def TwoP (T : TypeId) (w : World) (N : Nat) (xs ys : Array Value) : Prop := Blk w N T xs ∧ Blk w (N + 1) T ys
theorem twoP_new (T : TypeId) (w : World) (xs ys : Array Value) : TwoP T ((w.alloc (.cells xs T)).alloc (.cells ys T)) w.heap.size xs ys := by
  refine ⟨(Blk.new w _ xs).alloc _, ?_⟩
  have := Blk.new (w.alloc (.cells xs T)) T ys
  simpa using this
theorem TwoP.below {T : TypeId} {w w' : World} {N : Nat} {xs ys : Array Value} (h : TwoP T w N xs ys) (hb : Below w.heap.size w w') : TwoP T w' N xs ys :=
  ⟨h.1.below hb h.1.lt, h.2.below hb h.2.lt⟩
theorem twoP_below (w : World) (o1 o2 : Obj) : Below w.heap.size w ((w.alloc o1).alloc o2) := ((Below.refl _ _).alloc (Nat.le_refl _) _).alloc (by simp) _
set_option maxHeartbeats 2000000 in
theorem BeatsOther_i (s : ByteArray) (a1 a2 a3 a4 : Int) (t : ByteArray) (b1 b2 b3 b4 : Int) (w : World) (z0 : s.size ≤ maxLen) (z1 : t.size ≤ maxLen) :
    Calls Try.prog 18 #[policyV s a1 a2 a3 a4, policyV t b1 b2 b3 b4] w fun e w' => e = .returned (.bool (boB s a1 a2 a3 a4 t b1 b2 b3 b4)) ∧ Below w.heap.size w w' := by
  have t1 := Lib.hid (twoP_new 26 w #[.string s, .int .i64 a1, .int .i64 a2, .int .i64 a3, .int .i64 a4] #[.string t, .int .i64 b1, .int .i64 b2, .int .i64 b3, .int .i64 b4])
  have hb0 := Lib.hid (twoP_below w (.cells #[.string s, .int .i64 a1, .int .i64 a2, .int .i64 a3, .int .i64 a4] 26) (.cells #[.string t, .int .i64 b1, .int .i64 b2, .int .i64 b3, .int .i64 b4] 26))
  cases h : policyB s a1 a2 a3 a4
  · rw [show boB s a1 a2 a3 a4 t b1 b2 b3 b4 = false by simp [boB, h]]
    go_enter Try.func18, Try.ntmps18
    go_wp2_with fail
    refine (policyvalid_is h _ z0).mono ?_
    rintro r w1 ⟨rfl, hb1⟩
    go_wp2
    go_ret
    exact ⟨rfl, below_more hb0.out hb1 (Nat.le_refl _)⟩
  cases g : policyB t b1 b2 b3 b4
  · rw [show boB s a1 a2 a3 a4 t b1 b2 b3 b4 = false by simp [boB, g]]
    go_enter Try.func18, Try.ntmps18
    go_wp2_with fail
    refine (policyvalid_is h _ z0).mono ?_
    rintro r w1 ⟨rfl, hb1⟩
    have t2 := Lib.hid (t1.out.below hb1)
    have c1 := t2.out.1.cell
    have c2 := t2.out.2.cell
    go_wp2_with fail
    refine (policyvalid_is g _ z1).mono ?_
    rintro r w2 ⟨rfl, hb2⟩
    go_wp2
    go_ret
    exact ⟨rfl, below_more (below_more hb0.out hb1 (Nat.le_refl _)) hb2 (Nat.le_refl _)⟩
  · rw [show boB s a1 a2 a3 a4 t b1 b2 b3 b4 = btI a1 a2 a3 a4 b1 b2 b3 b4 by simp [boB, h, g]]
    go_enter Try.func18, Try.ntmps18
    go_wp2_with fail
    refine (policyvalid_is h _ z0).mono ?_
    rintro r w1 ⟨rfl, hb1⟩
    have t2 := Lib.hid (t1.out.below hb1)
    have c1 := t2.out.1.cell
    have c2 := t2.out.2.cell
    go_wp2_with fail
    refine (policyvalid_is g _ z1).mono ?_
    rintro r w2 ⟨rfl, hb2⟩
    have t3 := Lib.hid (t2.out.below hb2)
    clear c1 c2
    have c1 := t3.out.1.cell
    have c2 := t3.out.2.cell
    go_wp2_with fail
    refine (beats_any _ _ _ _ _ _ _ _ _ _ _).mono ?_
    rintro r w3 ⟨rfl, hb3⟩
    go_wp2
    go_ret
    exact ⟨rfl, below_more (below_more (below_more hb0.out hb1 (Nat.le_refl _)) hb2 (Nat.le_refl _)) hb3 (Nat.le_refl _)⟩
set_option maxHeartbeats 2000000 in
theorem BeatsOther_s (s : ByteArray) (a1 a2 a3 a4 : Int) (t : ByteArray) (b1 b2 b3 b4 : Int) (w : World) (z0 : s.size ≤ maxLen) (z1 : t.size ≤ maxLen) :
    Calls Try.prog 16 #[policyV s a1 a2 a3 a4, policyV t b1 b2 b3 b4] w fun e w' => e = .returned (.bool (boB s a1 a2 a3 a4 t b1 b2 b3 b4)) ∧ Below w.heap.size w w' := by
  have t1 := Lib.hid (twoP_new 26 w #[.string s, .int .i64 a1, .int .i64 a2, .int .i64 a3, .int .i64 a4] #[.string t, .int .i64 b1, .int .i64 b2, .int .i64 b3, .int .i64 b4])
  have hb0 := Lib.hid (twoP_below w (.cells #[.string s, .int .i64 a1, .int .i64 a2, .int .i64 a3, .int .i64 a4] 26) (.cells #[.string t, .int .i64 b1, .int .i64 b2, .int .i64 b3, .int .i64 b4] 26))
  cases h : policyB s a1 a2 a3 a4
  · rw [show boB s a1 a2 a3 a4 t b1 b2 b3 b4 = false by simp [boB, h]]
    go_enter Try.func16, Try.ntmps16
    go_wp2_with fail
    refine (policyone_is h _ z0 t1.out.1).mono ?_
    rintro r w' ⟨rfl, rfl⟩
    go_wp2
    go_ret
    exact ⟨rfl, hb0.out⟩
  cases g : policyB t b1 b2 b3 b4
  · rw [show boB s a1 a2 a3 a4 t b1 b2 b3 b4 = false by simp [boB, g]]
    go_enter Try.func16, Try.ntmps16
    go_wp2_with fail
    refine (policyone_is h _ z0 t1.out.1).mono ?_
    rintro r w' ⟨rfl, rfl⟩
    go_wp2_with fail
    refine (policyone_is g _ z1 t1.out.2).mono ?_
    rintro r w' ⟨rfl, rfl⟩
    go_wp2
    go_ret
    exact ⟨rfl, hb0.out⟩
  cases k : btP a1 a2 a3 a4 b1 b2 b3 b4
  · rw [show boB s a1 a2 a3 a4 t b1 b2 b3 b4 = false by simp [boB, btI, k]]
    go_enter Try.func16, Try.ntmps16
    go_wp2_with fail
    refine (policyone_is h _ z0 t1.out.1).mono ?_
    rintro r w' ⟨rfl, rfl⟩
    go_wp2_with fail
    refine (policyone_is g _ z1 t1.out.2).mono ?_
    rintro r w' ⟨rfl, rfl⟩
    go_wp2_with fail
    refine (l23Beats_is k _ t1.out.1 t1.out.2).mono ?_
    rintro r w1 ⟨rfl, hb1⟩
    go_wp2
    go_ret
    exact ⟨rfl, below_more hb0.out hb1 (Nat.le_refl _)⟩
  · rw [show boB s a1 a2 a3 a4 t b1 b2 b3 b4 = !btP b1 b2 b3 b4 a1 a2 a3 a4 by simp [boB, btI, h, g, k]]
    go_enter Try.func16, Try.ntmps16
    go_wp2_with fail
    refine (policyone_is h _ z0 t1.out.1).mono ?_
    rintro r w' ⟨rfl, rfl⟩
    go_wp2_with fail
    refine (policyone_is g _ z1 t1.out.2).mono ?_
    rintro r w' ⟨rfl, rfl⟩
    go_wp2_with fail
    refine (l23Beats_is k _ t1.out.1 t1.out.2).mono ?_
    rintro r w1 ⟨rfl, hb1⟩
    have t2 := Lib.hid (t1.out.below hb1)
    go_wp2_with fail
    refine (l23Beats_any _ _ _ _ _ _ _ _ _ _ _ _ _ t2.out.2 t2.out.1).mono ?_
    rintro r w2 ⟨rfl, hb2⟩
    go_wp2
    go_ret
    exact ⟨rfl, below_more (below_more hb0.out hb1 (Nat.le_refl _)) hb2 (Nat.le_refl _)⟩
end Go.Proofs.Ytgbpkblhokjbbaa
