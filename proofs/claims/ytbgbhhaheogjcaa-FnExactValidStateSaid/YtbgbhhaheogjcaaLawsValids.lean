/- The laws of ValidRibs and its like. -/
import Derived.Test.YtbgbhhaheogjcaaValids
import Derived.Test.YtbgbhhaheogjcaaOpenS
set_option linter.unusedVariables false
namespace Go.Proofs.Ytbgbhhaheogjcaa
open Go.RowKit

set_option maxHeartbeats 2000000 in
theorem FnExactValidRibs_walk (v0 : Value) (w : World) (i0 : IsRibS w v0) :
    Calls Try.prog 12 #[v0] w fun e w' => e = .returned (.bool true) ∧ Below w.heap.size w w' := by
  obtain ⟨A, n, c, ds, rfl, hn, hm, hr, hz⟩ := i0
  have HN := Lib.hid hn
  have H := Lib.hid hr
  have HZ := Lib.hid hz
  clear hn hr hz
  have m2 := hm
  unfold maxLen at m2
  go_enter Try.func12, Try.ntmps12
  go_wp2_with fail
  refine (szRibS_any A c n ds _ w HN.out H.out HZ.out (by omega) (by omega) hm).mono ?_
  rintro r w1 ⟨q, hq, rfl, hb1⟩
  have b1 := Lib.hid hb1
  clear hb1
  rcases hq with rfl | ⟨q0, q1⟩
  · go_wp2
    go_ret
    exact ⟨rfl, b1.out⟩
  have nn : n ≤ 1048576 := by omega
  go_wp2_with fail
  refine (toRibS_any A c n ds _ HN.out (H.out.next b1.out) nn).mono ?_
  rintro r w2 ⟨rfl, k2, hb2⟩
  have b2 := Lib.hid (below_more b1.out hb2 (Nat.le_refl _))
  have R2 := Lib.hid (Rd.blk (n := n) (k := 3) (B := w2.heap.size) k2 (by rw [flat_len ribF_len, HN.out]) k2.lt)
  clear hb2 k2
  go_wp2_with fail
  refine (ValidRibs_s _ _ n ds _ HN.out R2.out HZ.out nn).mono ?_
  rintro r w3 ⟨rfl, hb3⟩
  have b3 := Lib.hid (below_more b2.out hb3 (Nat.le_refl _))
  clear hb3 R2
  go_wp2_with fail
  refine (toRibS_any A c n ds _ HN.out (H.out.next b3.out) nn).mono ?_
  rintro r w4 ⟨rfl, k4, hb4⟩
  have b4 := Lib.hid (below_more b3.out hb4 (Nat.le_refl _))
  have R4 := Lib.hid (Rd.blk (n := n) (k := 3) (B := w4.heap.size) k4 (by rw [flat_len ribF_len, HN.out]) k4.lt)
  clear hb4 k4
  go_wp2_with fail
  refine (ValidRibs_i _ _ n ds _ HN.out R4.out HZ.out nn).mono ?_
  rintro r w5 ⟨rfl, hb5⟩
  have b5 := Lib.hid (below_more b4.out hb5 (Nat.le_refl _))
  have R5 := Lib.hid (R4.out.next hb5)
  clear hb5 R4
  go_wp2_with fail
  refine (toRibS_any A c n ds _ HN.out (H.out.next b5.out) nn).mono ?_
  rintro r w6 ⟨rfl, k6, hb6⟩
  have b6 := Lib.hid (below_more b5.out hb6 (Nat.le_refl _))
  have R6 := Lib.hid (Rd.blk (n := n) (k := 3) (B := w6.heap.size) k6 (by rw [flat_len ribF_len, HN.out]) k6.lt)
  have R6' := Lib.hid (R5.out.next hb6)
  clear hb6 k6 R5
  go_wp2_with fail
  refine (eqRibS_refl _ _ _ _ n ds _ HN.out R6'.out R6.out nn).mono ?_
  rintro r w7 ⟨rfl, hb7⟩
  go_wp2
  go_ret
  exact ⟨rfl, below_more b6.out hb7 (Nat.le_refl _)⟩
set_option maxHeartbeats 2000000 in
theorem FnExactValidBow_walk (v0 : Value) (w : World) (i0 : IsPartS w v0) :
    Calls Try.prog 13 #[v0] w fun e w' => e = .returned (.bool true) ∧ Below w.heap.size w w' := by
  obtain ⟨A, n, c, ds, rfl, hn, hm, hr, hz⟩ := i0
  have HN := Lib.hid hn
  have H := Lib.hid hr
  have HZ := Lib.hid hz
  clear hn hr hz
  have m2 := hm
  unfold maxLen at m2
  go_enter Try.func13, Try.ntmps13
  go_wp2_with fail
  refine (szPartS_any A c n ds _ w HN.out H.out HZ.out (by omega) (by omega) hm).mono ?_
  rintro r w1 ⟨q, hq, rfl, hb1⟩
  have b1 := Lib.hid hb1
  clear hb1
  rcases hq with rfl | ⟨q0, q1⟩
  · go_wp2
    go_ret
    exact ⟨rfl, b1.out⟩
  have nn : n ≤ 1048576 := by omega
  go_wp2_with fail
  refine (toPartS_any A c n ds _ HN.out (H.out.next b1.out) nn).mono ?_
  rintro r w2 ⟨rfl, k2, hb2⟩
  have b2 := Lib.hid (below_more b1.out hb2 (Nat.le_refl _))
  have R2 := Lib.hid (Rd.blk (n := n) (k := 3) (B := w2.heap.size) k2 (by rw [flat_len partF_len, HN.out]) k2.lt)
  clear hb2 k2
  go_wp2_with fail
  refine (ValidBow_s _ _ n ds _ HN.out R2.out HZ.out nn).mono ?_
  rintro r w3 ⟨rfl, hb3⟩
  have b3 := Lib.hid (below_more b2.out hb3 (Nat.le_refl _))
  clear hb3 R2
  go_wp2_with fail
  refine (toPartS_any A c n ds _ HN.out (H.out.next b3.out) nn).mono ?_
  rintro r w4 ⟨rfl, k4, hb4⟩
  have b4 := Lib.hid (below_more b3.out hb4 (Nat.le_refl _))
  have R4 := Lib.hid (Rd.blk (n := n) (k := 3) (B := w4.heap.size) k4 (by rw [flat_len partF_len, HN.out]) k4.lt)
  clear hb4 k4
  go_wp2_with fail
  refine (ValidBow_i _ _ n ds _ HN.out R4.out HZ.out nn).mono ?_
  rintro r w5 ⟨rfl, hb5⟩
  have b5 := Lib.hid (below_more b4.out hb5 (Nat.le_refl _))
  have R5 := Lib.hid (R4.out.next hb5)
  clear hb5 R4
  go_wp2_with fail
  refine (toPartS_any A c n ds _ HN.out (H.out.next b5.out) nn).mono ?_
  rintro r w6 ⟨rfl, k6, hb6⟩
  have b6 := Lib.hid (below_more b5.out hb6 (Nat.le_refl _))
  have R6 := Lib.hid (Rd.blk (n := n) (k := 3) (B := w6.heap.size) k6 (by rw [flat_len partF_len, HN.out]) k6.lt)
  have R6' := Lib.hid (R5.out.next hb6)
  clear hb6 k6 R5
  go_wp2_with fail
  refine (eqPartS_refl _ _ _ _ n ds _ HN.out R6'.out R6.out nn).mono ?_
  rintro r w7 ⟨rfl, hb7⟩
  go_wp2
  go_ret
  exact ⟨rfl, below_more b6.out hb7 (Nat.le_refl _)⟩
set_option maxHeartbeats 2000000 in
theorem FnExactValidModes_walk (v0 : Value) (w : World) (i0 : IsModeS w v0) :
    Calls Try.prog 14 #[v0] w fun e w' => e = .returned (.bool true) ∧ Below w.heap.size w w' := by
  obtain ⟨A, n, c, ds, rfl, hn, hm, hr, hz⟩ := i0
  have HN := Lib.hid hn
  have H := Lib.hid hr
  have HZ := Lib.hid hz
  clear hn hr hz
  have m2 := hm
  unfold maxLen at m2
  go_enter Try.func14, Try.ntmps14
  go_wp2_with fail
  refine (szModeS_any A c n ds _ w HN.out H.out HZ.out (by omega) (by omega) hm).mono ?_
  rintro r w1 ⟨q, hq, rfl, hb1⟩
  have b1 := Lib.hid hb1
  clear hb1
  rcases hq with rfl | ⟨q0, q1⟩
  · go_wp2
    go_ret
    exact ⟨rfl, b1.out⟩
  have nn : n ≤ 1048576 := by omega
  go_wp2_with fail
  refine (toModeS_any A c n ds _ HN.out (H.out.next b1.out) nn).mono ?_
  rintro r w2 ⟨rfl, k2, hb2⟩
  have b2 := Lib.hid (below_more b1.out hb2 (Nat.le_refl _))
  have R2 := Lib.hid (Rd.blk (n := n) (k := 3) (B := w2.heap.size) k2 (by rw [flat_len modeF_len, HN.out]) k2.lt)
  clear hb2 k2
  go_wp2_with fail
  refine (ValidModes_s _ _ n ds _ HN.out R2.out HZ.out nn).mono ?_
  rintro r w3 ⟨rfl, hb3⟩
  have b3 := Lib.hid (below_more b2.out hb3 (Nat.le_refl _))
  clear hb3 R2
  go_wp2_with fail
  refine (toModeS_any A c n ds _ HN.out (H.out.next b3.out) nn).mono ?_
  rintro r w4 ⟨rfl, k4, hb4⟩
  have b4 := Lib.hid (below_more b3.out hb4 (Nat.le_refl _))
  have R4 := Lib.hid (Rd.blk (n := n) (k := 3) (B := w4.heap.size) k4 (by rw [flat_len modeF_len, HN.out]) k4.lt)
  clear hb4 k4
  go_wp2_with fail
  refine (ValidModes_i _ _ n ds _ HN.out R4.out HZ.out nn).mono ?_
  rintro r w5 ⟨rfl, hb5⟩
  have b5 := Lib.hid (below_more b4.out hb5 (Nat.le_refl _))
  have R5 := Lib.hid (R4.out.next hb5)
  clear hb5 R4
  go_wp2_with fail
  refine (toModeS_any A c n ds _ HN.out (H.out.next b5.out) nn).mono ?_
  rintro r w6 ⟨rfl, k6, hb6⟩
  have b6 := Lib.hid (below_more b5.out hb6 (Nat.le_refl _))
  have R6 := Lib.hid (Rd.blk (n := n) (k := 3) (B := w6.heap.size) k6 (by rw [flat_len modeF_len, HN.out]) k6.lt)
  have R6' := Lib.hid (R5.out.next hb6)
  clear hb6 k6 R5
  go_wp2_with fail
  refine (eqModeS_refl _ _ _ _ n ds _ HN.out R6'.out R6.out nn).mono ?_
  rintro r w7 ⟨rfl, hb7⟩
  go_wp2
  go_ret
  exact ⟨rfl, below_more b6.out hb7 (Nat.le_refl _)⟩
set_option maxHeartbeats 2000000 in
theorem FnExactValidState_walk (v0 : Value) (w : World) (i0 : IsSettingS w v0) :
    Calls Try.prog 10 #[v0] w fun e w' => e = .returned (.bool true) ∧ Below w.heap.size w w' := by
  obtain ⟨A, n, c, ds, rfl, hn, hm, hr, hz⟩ := i0
  have HN := Lib.hid hn
  have H := Lib.hid hr
  have HZ := Lib.hid hz
  clear hn hr hz
  have m2 := hm
  unfold maxLen at m2
  go_enter Try.func10, Try.ntmps10
  go_wp2_with fail
  refine (szSettingS_any A c n ds _ w HN.out H.out HZ.out (by omega) (by omega) hm).mono ?_
  rintro r w1 ⟨q, hq, rfl, hb1⟩
  have b1 := Lib.hid hb1
  clear hb1
  rcases hq with rfl | ⟨q0, q1⟩
  · go_wp2
    go_ret
    exact ⟨rfl, b1.out⟩
  have nn : n ≤ 1048576 := by omega
  go_wp2_with fail
  refine (toSettingS_any A c n ds _ HN.out (H.out.next b1.out) nn).mono ?_
  rintro r w2 ⟨rfl, k2, hb2⟩
  have b2 := Lib.hid (below_more b1.out hb2 (Nat.le_refl _))
  have R2 := Lib.hid (Rd.blk (n := n) (k := 2) (B := w2.heap.size) k2 (by rw [flat_len settingF_len, HN.out]) k2.lt)
  clear hb2 k2
  go_wp2_with fail
  refine (ValidState_s _ _ n ds _ HN.out R2.out HZ.out nn).mono ?_
  rintro r w3 ⟨rfl, hb3⟩
  have b3 := Lib.hid (below_more b2.out hb3 (Nat.le_refl _))
  clear hb3 R2
  go_wp2_with fail
  refine (toSettingS_any A c n ds _ HN.out (H.out.next b3.out) nn).mono ?_
  rintro r w4 ⟨rfl, k4, hb4⟩
  have b4 := Lib.hid (below_more b3.out hb4 (Nat.le_refl _))
  have R4 := Lib.hid (Rd.blk (n := n) (k := 2) (B := w4.heap.size) k4 (by rw [flat_len settingF_len, HN.out]) k4.lt)
  clear hb4 k4
  go_wp2_with fail
  refine (ValidState_i _ _ n ds _ HN.out R4.out HZ.out nn).mono ?_
  rintro r w5 ⟨rfl, hb5⟩
  have b5 := Lib.hid (below_more b4.out hb5 (Nat.le_refl _))
  have R5 := Lib.hid (R4.out.next hb5)
  clear hb5 R4
  go_wp2_with fail
  refine (toSettingS_any A c n ds _ HN.out (H.out.next b5.out) nn).mono ?_
  rintro r w6 ⟨rfl, k6, hb6⟩
  have b6 := Lib.hid (below_more b5.out hb6 (Nat.le_refl _))
  have R6 := Lib.hid (Rd.blk (n := n) (k := 2) (B := w6.heap.size) k6 (by rw [flat_len settingF_len, HN.out]) k6.lt)
  have R6' := Lib.hid (R5.out.next hb6)
  clear hb6 k6 R5
  go_wp2_with fail
  refine (eqSettingS_refl _ _ _ _ n ds _ HN.out R6'.out R6.out nn).mono ?_
  rintro r w7 ⟨rfl, hb7⟩
  go_wp2
  go_ret
  exact ⟨rfl, below_more b6.out hb7 (Nat.le_refl _)⟩
end Go.Proofs.Ytbgbhhaheogjcaa
