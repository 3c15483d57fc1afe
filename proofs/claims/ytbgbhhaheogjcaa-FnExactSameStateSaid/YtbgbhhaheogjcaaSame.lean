/- SameState. -/
import Derived.Test.YtbgbhhaheogjcaaRibs
import Derived.Laws.StructEq
set_option linter.unusedVariables false
namespace Go.Proofs.Ytbgbhhaheogjcaa
open Go.RowKit

def setEq (x y : SettingD) : Bool := (x.s0.toList == y.s0.toList) && (x.a1 == y.a1)
def sameAt (xs bs : List SettingD) (i : Nat) : Bool := (xs[i]?.bind fun x => bs[i]?.map fun y => setEq x y).getD true
def sameTo (xs bs : List SettingD) : Nat → Bool
  | 0 => true
  | i + 1 => sameTo xs bs i && sameAt xs bs i
def sameB (xs bs : List SettingD) : Bool := (xs.length == bs.length) && sameTo xs bs xs.length
theorem sameAt_is {xs bs : List SettingD} {i : Nat} {x y : SettingD} (hx : xs[i]? = some x) (hy : bs[i]? = some y) : sameAt xs bs i = setEq x y := by simp [sameAt, hx, hy]
theorem sameTo_bad {xs bs : List SettingD} {k n : Nat} (h : k < n) (g : sameAt xs bs k = false) : sameTo xs bs n = false := by
  induction n with
  | zero => omega
  | succ n ih =>
    rw [sameTo]
    rcases Nat.lt_or_ge k n with hl | hl
    · rw [ih hl]; rfl
    · obtain rfl : k = n := by omega
      rw [g, Bool.and_false]
theorem sameB_bad {xs bs : List SettingD} {k : Nat} (h : k < xs.length) (g : sameAt xs bs k = false) : sameB xs bs = false := by rw [sameB, sameTo_bad h g, Bool.and_false]
theorem sameTo_next {xs bs : List SettingD} {k : Nat} (h : sameTo xs bs k = true) (g : sameAt xs bs k = true) : sameTo xs bs (k + 1) = true := by rw [sameTo, h, g]; rfl
theorem sameB_len {xs bs : List SettingD} (h : xs.length ≠ bs.length) : sameB xs bs = false := by simp [sameB, h]
theorem sameB_all {xs bs : List SettingD} (h : xs.length = bs.length) (g : sameTo xs bs xs.length = true) : sameB xs bs = true := by
  simp only [sameB, h, beq_self_eq_true, Bool.true_and]; rw [← h]; exact g
set_option maxHeartbeats 1000000 in
theorem l27Same_s (A A' : Option Addr) (c c' n m : Nat) (xs bs : List SettingD) (w : World) (hn : xs.length = n) (hm : bs.length = m) (h : Rd w w.heap.size 2 A n (xs.flatMap settingF)) (h' : Rd w w.heap.size 2 A' m (bs.flatMap settingF)) (n1 : n ≤ 1048576) (m1 : m ≤ 1048576) :
    Calls Try.prog 100 #[.slice A n c, .slice A' m c'] w fun e w' => e = .returned (.bool (sameB xs bs)) ∧ Below w.heap.size w w' := by
  by_cases hnm : n = m
  · subst hnm
    have HN := Lib.hid hn
    have HM := Lib.hid hm
    have H := Lib.hid h
    have H' := Lib.hid h'
    clear hn h h' hm m1
    go_enter Try.func100, Try.ntmps100
    go_wp2
    go_loopw [5] (fun i wr => ∃ k : Nat, k ≤ n ∧ i = .int .i64 k ∧ Hid (sameTo xs bs k = true) ∧ Hid (Below w.heap.size w wr)) (fun i _ => n - (intOf i).toNat)
    case atStart => exact ⟨0, Nat.zero_le _, rfl, Lib.hid rfl, Lib.hid (Below.refl _ _)⟩
    case round =>
      obtain ⟨k, hk, rfl, hf, hb⟩ := hrel
      by_cases hlt : k < n
      · obtain ⟨x, hx, hxm⟩ := getD_of (l := xs) (i := k) (by rw [HN.out]; exact hlt)
        obtain ⟨y, hy, hym⟩ := getD_of (l := bs) (i := k) (by rw [HM.out]; exact hlt)
        have HA := Lib.hid (sameAt_is hx hy)
        obtain ⟨b, o, rfl, hbB, hc⟩ := (H.out.below hb.out).at_ settingF_len (by omega)
        obtain ⟨b', o', rfl, hbB', hc'⟩ := (H'.out.below hb.out).at_ settingF_len (by omega)
        have hsz := hb.out.size
        have c0 : ∀ u : Bel wr.heap.size wr, u.val.cell? ⟨b, o + k * 2, none⟩ = some (.string x.s0) := bel_at (hc k x 0 _ hx rfl) (by omega)
        have c1 : ∀ u : Bel wr.heap.size wr, u.val.cell? ⟨b, o + k * 2 + 1, none⟩ = some (.int .i64 x.a1) := bel_at (hc k x 1 _ hx rfl) (by omega)
        have d0 : ∀ u : Bel wr.heap.size wr, u.val.cell? ⟨b', o' + k * 2, none⟩ = some (.string y.s0) := bel_at (hc' k y 0 _ hy rfl) (by omega)
        have d1 : ∀ u : Bel wr.heap.size wr, u.val.cell? ⟨b', o' + k * 2 + 1, none⟩ = some (.int .i64 y.a1) := bel_at (hc' k y 1 _ hy rfl) (by omega)
        clear hc hc' hx hxm hy hym
        have tk0 : (0 : Int) ≤ k := by omega
        have tk1 : (k : Int) < n := by omega
        have tk2 : (k : Int).toNat = k := by simp
        cases hs : (x.s0.toList == y.s0.toList)
        · have HF := Lib.hid (sameB_bad (k := k) (by rw [HN.out]; exact hlt) (HA.out.trans (by simp [setEq, hs])))
          go_wp2_with fail
          (refine wp_region_bel wr.heap.size wr (Below.refl _ _) (by kernel_rfl) (by kernel_rfl) ?_; (repeat (go_big_quiet_step ((first | fail)))); refine wpQuiet_nil ?_; rintro w1 ⟨⟨_, hb1⟩, rfl⟩)
          clear c0 c1 d0 d1 tk2 hs
          have b1 := Lib.hid (below_more hb.out hb1 (Nat.le_refl _))
          go_wp2
          go_ret
          exact ⟨ret_bool HF.out.symm, b1.out⟩
        · cases ha : (x.a1 == y.a1)
          · have HF := Lib.hid (sameB_bad (k := k) (by rw [HN.out]; exact hlt) (HA.out.trans (by simp [setEq, ha])))
            go_wp2_with fail
            (refine wp_region_bel wr.heap.size wr (Below.refl _ _) (by kernel_rfl) (by kernel_rfl) ?_; (repeat (go_big_quiet_step ((first | fail)))); refine wpQuiet_nil ?_; rintro w1 ⟨⟨_, hb1⟩, rfl⟩)
            clear c0 c1 d0 d1 tk2 hs ha
            have b1 := Lib.hid (below_more hb.out hb1 (Nat.le_refl _))
            go_wp2
            go_ret
            exact ⟨ret_bool HF.out.symm, b1.out⟩
          · have HF := Lib.hid (sameTo_next hf.out (HA.out.trans (by simp [setEq, hs, ha])))
            go_wp2_with fail
            (refine wp_region_bel wr.heap.size wr (Below.refl _ _) (by kernel_rfl) (by kernel_rfl) ?_; (repeat (go_big_quiet_step ((first | fail)))); refine wpQuiet_nil ?_; rintro w1 ⟨⟨_, hb1⟩, rfl⟩)
            clear c0 c1 d0 d1 tk2 hs ha
            have b1 := Lib.hid (below_more hb.out hb1 (Nat.le_refl _))
            go_wp2
            go_roundw
            case rel => exact ⟨k + 1, by omega, by go_num, HF, b1⟩
            case measure => simp [intOf]; omega
      · obtain rfl : k = n := by omega
        have HF := Lib.hid (sameB_all (HN.out.trans HM.out.symm) (by rw [HN.out]; exact hf.out))
        go_wp2
        go_ret
        exact ⟨ret_bool HF.out.symm, hb.out⟩
  · have HF := Lib.hid (sameB_len (xs := xs) (bs := bs) (by rw [hn, hm]; exact hnm))
    have q : ((n : Int) == m) = false := by rw [Bool.eq_false_iff]; simp; omega
    have q' : ((n : Int) != m) = true := by simp; omega
    clear hn hm h h' hnm
    go_enter Try.func100, Try.ntmps100
    go_wp2
    go_ret
    exact ⟨ret_bool HF.out.symm, Below.refl _ _⟩
set_option maxHeartbeats 1000000 in
theorem same_i (A A' : Option Addr) (c c' n m : Nat) (xs bs : List SettingD) (w : World) (hn : xs.length = n) (hm : bs.length = m) (h : Rd w w.heap.size 2 A n (xs.flatMap settingF)) (h' : Rd w w.heap.size 2 A' m (bs.flatMap settingF)) (n1 : n ≤ 1048576) (m1 : m ≤ 1048576) :
    Calls Try.prog 101 #[.slice A n c, .slice A' m c'] w fun e w' => e = .returned (.bool (sameB xs bs)) ∧ Below w.heap.size w w' := by
  by_cases hnm : n = m
  · subst hnm
    have HN := Lib.hid hn
    have HM := Lib.hid hm
    have H := Lib.hid h
    have H' := Lib.hid h'
    clear hn h h' hm m1
    go_enter Try.func101, Try.ntmps101
    go_wp2
    go_loopw [13] (fun i wr => ∃ k : Nat, k ≤ n ∧ i = .int .i64 k ∧ Hid (sameTo xs bs k = true) ∧ Hid (Below w.heap.size w wr)) (fun i _ => n - (intOf i).toNat)
    case atStart => exact ⟨0, Nat.zero_le _, rfl, Lib.hid rfl, Lib.hid (Below.refl _ _)⟩
    case round =>
      obtain ⟨k, hk, rfl, hf, hb⟩ := hrel
      by_cases hlt : k < n
      · obtain ⟨x, hx, hxm⟩ := getD_of (l := xs) (i := k) (by rw [HN.out]; exact hlt)
        obtain ⟨y, hy, hym⟩ := getD_of (l := bs) (i := k) (by rw [HM.out]; exact hlt)
        have HA := Lib.hid (sameAt_is hx hy)
        obtain ⟨b, o, rfl, hbB, hc⟩ := (H.out.below hb.out).at_ settingF_len (by omega)
        obtain ⟨b', o', rfl, hbB', hc'⟩ := (H'.out.below hb.out).at_ settingF_len (by omega)
        have hsz := hb.out.size
        have c0 : ∀ u : Bel wr.heap.size wr, u.val.cell? ⟨b, o + k * 2, none⟩ = some (.string x.s0) := bel_at (hc k x 0 _ hx rfl) (by omega)
        have c1 : ∀ u : Bel wr.heap.size wr, u.val.cell? ⟨b, o + k * 2 + 1, none⟩ = some (.int .i64 x.a1) := bel_at (hc k x 1 _ hx rfl) (by omega)
        have d0 : ∀ u : Bel wr.heap.size wr, u.val.cell? ⟨b', o' + k * 2, none⟩ = some (.string y.s0) := bel_at (hc' k y 0 _ hy rfl) (by omega)
        have d1 : ∀ u : Bel wr.heap.size wr, u.val.cell? ⟨b', o' + k * 2 + 1, none⟩ = some (.int .i64 y.a1) := bel_at (hc' k y 1 _ hy rfl) (by omega)
        clear hc hc' hx hxm hy hym
        have tk0 : (0 : Int) ≤ k := by omega
        have tk1 : (k : Int) < n := by omega
        have tk2 : (k : Int).toNat = k := by simp
        cases hs : (x.s0.toList == y.s0.toList)
        · have HF := Lib.hid (sameB_bad (k := k) (by rw [HN.out]; exact hlt) (HA.out.trans (by simp [setEq, hs])))
          go_wp2_with fail
          (refine wp_region_bel wr.heap.size wr (Below.refl _ _) (by kernel_rfl) (by kernel_rfl) ?_; (repeat (go_big_quiet_step ((first | fail)))); refine wpQuiet_nil ?_; rintro w1 ⟨⟨_, hb1⟩, rfl⟩)
          clear c0 c1 d0 d1 tk2 hs
          have b1 := Lib.hid (below_more hb.out hb1 (Nat.le_refl _))
          go_wp2
          go_ret
          exact ⟨ret_bool HF.out.symm, b1.out⟩
        · cases ha : (x.a1 == y.a1)
          · have HF := Lib.hid (sameB_bad (k := k) (by rw [HN.out]; exact hlt) (HA.out.trans (by simp [setEq, ha])))
            go_wp2_with fail
            (refine wp_region_bel wr.heap.size wr (Below.refl _ _) (by kernel_rfl) (by kernel_rfl) ?_; (repeat (go_big_quiet_step ((first | fail)))); refine wpQuiet_nil ?_; rintro w1 ⟨⟨_, hb1⟩, rfl⟩)
            clear c0 c1 d0 d1 tk2 hs ha
            have b1 := Lib.hid (below_more hb.out hb1 (Nat.le_refl _))
            go_wp2
            go_ret
            exact ⟨ret_bool HF.out.symm, b1.out⟩
          · have HF := Lib.hid (sameTo_next hf.out (HA.out.trans (by simp [setEq, hs, ha])))
            go_wp2_with fail
            (refine wp_region_bel wr.heap.size wr (Below.refl _ _) (by kernel_rfl) (by kernel_rfl) ?_; (repeat (go_big_quiet_step ((first | fail)))); refine wpQuiet_nil ?_; rintro w1 ⟨⟨_, hb1⟩, rfl⟩)
            clear c0 c1 d0 d1 tk2 hs ha
            have b1 := Lib.hid (below_more hb.out hb1 (Nat.le_refl _))
            go_wp2
            go_roundw
            case rel => exact ⟨k + 1, by omega, by go_num, HF, b1⟩
            case measure => simp [intOf]; omega
      · obtain rfl : k = n := by omega
        have HF := Lib.hid (sameB_all (HN.out.trans HM.out.symm) (by rw [HN.out]; exact hf.out))
        go_wp2
        go_ret
        exact ⟨ret_bool HF.out.symm, hb.out⟩
  · have HF := Lib.hid (sameB_len (xs := xs) (bs := bs) (by rw [hn, hm]; exact hnm))
    have q : ((n : Int) == m) = false := by rw [Bool.eq_false_iff]; simp; omega
    have q' : ((n : Int) != m) = true := by simp; omega
    clear hn hm h h' hnm
    go_enter Try.func101, Try.ntmps101
    go_wp2
    go_ret
    exact ⟨ret_bool HF.out.symm, Below.refl _ _⟩
theorem SameState_s (A A' : Option Addr) (c c' n m : Nat) (xs bs : List SettingD) (w : World) (hn : xs.length = n) (hm : bs.length = m) (h : Rd w w.heap.size 2 A n (xs.flatMap settingF)) (h' : Rd w w.heap.size 2 A' m (bs.flatMap settingF)) (n1 : n ≤ 1048576) (m1 : m ≤ 1048576) :
    Calls Try.prog 44 #[.slice A n c, .slice A' m c'] w fun e w' => e = .returned (.bool (sameB xs bs)) ∧ Below w.heap.size w w' := by
  go_enter Try.func44, Try.ntmps44
  go_wp2_with fail
  refine (l27Same_s A A' c c' n m xs bs w hn hm h h' n1 m1).mono ?_
  rintro r w1 ⟨rfl, hb1⟩
  go_wp2
  go_ret
  exact ⟨rfl, hb1⟩
theorem SameState_i (A A' : Option Addr) (c c' n m : Nat) (xs bs : List SettingD) (w : World) (hn : xs.length = n) (hm : bs.length = m) (h : Rd w w.heap.size 2 A n (xs.flatMap settingF)) (h' : Rd w w.heap.size 2 A' m (bs.flatMap settingF)) (n1 : n ≤ 1048576) (m1 : m ≤ 1048576) :
    Calls Try.prog 45 #[.slice A n c, .slice A' m c'] w fun e w' => e = .returned (.bool (sameB xs bs)) ∧ Below w.heap.size w w' := by
  go_enter Try.func45, Try.ntmps45
  go_wp2_with fail
  refine (same_i A A' c c' n m xs bs w hn hm h h' n1 m1).mono ?_
  rintro r w1 ⟨rfl, hb1⟩
  go_wp2
  go_ret
  exact ⟨rfl, hb1⟩
end Go.Proofs.Ytbgbhhaheogjcaa
