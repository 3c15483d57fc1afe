/- The law of SameState. -/
import Derived.Test.YtbgbhhaheogjcaaSame
import Derived.Test.YtbgbhhaheogjcaaOpenS
set_option linter.unusedVariables false
namespace Go.Proofs.Ytbgbhhaheogjcaa
open Go.RowKit

set_option maxHeartbeats 2000000 in
theorem FnExactSameState_walk (v0 v1 : Value) (w : World) (i0 : IsSettingS w v0) (i1 : IsSettingS w v1) :
    Calls Try.prog 11 #[v0, v1] w fun e w' => e = .returned (.bool true) ∧ Below w.heap.size w w' := by
  obtain ⟨A, n, c, xs, rfl, hn, hm, hr, hz⟩ := i0
  obtain ⟨A', n', c', bs, rfl, hn', hm', hr', hz'⟩ := i1
  have HN := Lib.hid hn
  have H := Lib.hid hr
  have HZ := Lib.hid hz
  have HN' := Lib.hid hn'
  have H' := Lib.hid hr'
  have HZ' := Lib.hid hz'
  clear hn hr hz hn' hr' hz'
  have m2 := hm
  unfold maxLen at m2
  have m3 := hm'
  unfold maxLen at m3
  go_enter Try.func11, Try.ntmps11
  go_wp2_with fail
  refine (szSettingS_any A c n xs _ w HN.out H.out HZ.out (by omega) (by omega) hm).mono ?_
  rintro r w1 ⟨q, hq, rfl, hb1⟩
  have b1 := Lib.hid hb1
  clear hb1
  rcases hq with rfl | ⟨q0, q1⟩
  · go_wp2
    go_ret
    exact ⟨rfl, b1.out⟩
  have nn : n ≤ 1048576 := by omega
  go_wp2_with fail
  refine (szSettingS_any A' c' n' bs _ _ HN'.out (H'.out.next b1.out) HZ'.out (by omega) (by omega) hm').mono ?_
  rintro r w2 ⟨q', hq', rfl, hb2⟩
  have b2 := Lib.hid (below_more b1.out hb2 (Nat.le_refl _))
  clear hb2 b1
  rcases hq' with rfl | ⟨q0', q1'⟩
  · go_wp2
    go_ret
    exact ⟨rfl, b2.out⟩
  have nn' : n' ≤ 1048576 := by omega
  go_wp2_with fail
  refine (toSettingS_any A c n xs _ HN.out (H.out.next b2.out) nn).mono ?_
  rintro r w3 ⟨rfl, k3, hb3⟩
  have b3 := Lib.hid (below_more b2.out hb3 (Nat.le_refl _))
  have R3 := Lib.hid (Rd.blk (n := n) (k := 2) (B := w3.heap.size) k3 (by rw [flat_len settingF_len, HN.out]) k3.lt)
  clear hb3 k3 b2
  go_wp2_with fail
  refine (toSettingS_any A' c' n' bs _ HN'.out (H'.out.next b3.out) nn').mono ?_
  rintro r w4 ⟨rfl, k4, hb4⟩
  have b4 := Lib.hid (below_more b3.out hb4 (Nat.le_refl _))
  have R4 := Lib.hid (Rd.blk (n := n') (k := 2) (B := w4.heap.size) k4 (by rw [flat_len settingF_len, HN'.out]) k4.lt)
  have R4' := Lib.hid (R3.out.next hb4)
  clear hb4 k4 b3 R3
  go_wp2_with fail
  refine (SameState_s _ _ _ _ n n' xs bs _ HN.out HN'.out R4'.out R4.out nn nn').mono ?_
  rintro r w5 ⟨rfl, hb5⟩
  have b5 := Lib.hid (below_more b4.out hb5 (Nat.le_refl _))
  clear hb5 R4 R4' b4
  go_wp2_with fail
  refine (toSettingS_any A c n xs _ HN.out (H.out.next b5.out) nn).mono ?_
  rintro r w6 ⟨rfl, k6, hb6⟩
  have b6 := Lib.hid (below_more b5.out hb6 (Nat.le_refl _))
  have R6 := Lib.hid (Rd.blk (n := n) (k := 2) (B := w6.heap.size) k6 (by rw [flat_len settingF_len, HN.out]) k6.lt)
  clear hb6 k6 b5
  go_wp2_with fail
  refine (toSettingS_any A' c' n' bs _ HN'.out (H'.out.next b6.out) nn').mono ?_
  rintro r w7 ⟨rfl, k7, hb7⟩
  have b7 := Lib.hid (below_more b6.out hb7 (Nat.le_refl _))
  have R7 := Lib.hid (Rd.blk (n := n') (k := 2) (B := w7.heap.size) k7 (by rw [flat_len settingF_len, HN'.out]) k7.lt)
  have R7' := Lib.hid (R6.out.next hb7)
  clear hb7 k7 b6 R6
  go_wp2_with fail
  refine (SameState_i _ _ _ _ n n' xs bs _ HN.out HN'.out R7'.out R7.out nn nn').mono ?_
  rintro r w8 ⟨rfl, hb8⟩
  have b8 := Lib.hid (below_more b7.out hb8 (Nat.le_refl _))
  have R8 := Lib.hid (R7.out.next hb8)
  have R8' := Lib.hid (R7'.out.next hb8)
  clear hb8 R7 R7' b7
  go_wp2_with fail
  refine (toSettingS_any A c n xs _ HN.out (H.out.next b8.out) nn).mono ?_
  rintro r w9 ⟨rfl, k9, hb9⟩
  have b9 := Lib.hid (below_more b8.out hb9 (Nat.le_refl _))
  have R9 := Lib.hid (Rd.blk (n := n) (k := 2) (B := w9.heap.size) k9 (by rw [flat_len settingF_len, HN.out]) k9.lt)
  have X9 := Lib.hid (R8'.out.next hb9)
  have Y9 := Lib.hid (R8.out.next hb9)
  clear hb9 k9 b8 R8 R8'
  go_wp2_with fail
  refine (eqSettingS_refl _ _ _ _ n xs _ HN.out X9.out R9.out nn).mono ?_
  rintro r w10 ⟨rfl, hb10⟩
  have b10 := Lib.hid (below_more b9.out hb10 (Nat.le_refl _))
  have Y10 := Lib.hid (Y9.out.next hb10)
  clear hb10 b9 R9 X9 Y9
  go_wp2_with fail
  refine (toSettingS_any A' c' n' bs _ HN'.out (H'.out.next b10.out) nn').mono ?_
  rintro r w11 ⟨rfl, k11, hb11⟩
  have b11 := Lib.hid (below_more b10.out hb11 (Nat.le_refl _))
  have R11 := Lib.hid (Rd.blk (n := n') (k := 2) (B := w11.heap.size) k11 (by rw [flat_len settingF_len, HN'.out]) k11.lt)
  have Y11 := Lib.hid (Y10.out.next hb11)
  clear hb11 k11 b10 Y10
  go_wp2_with fail
  refine (eqSettingS_refl _ _ _ _ n' bs _ HN'.out Y11.out R11.out nn').mono ?_
  rintro r w12 ⟨rfl, hb12⟩
  go_wp2
  go_ret
  exact ⟨rfl, below_more b11.out hb12 (Nat.le_refl _)⟩
end Go.Proofs.Ytbgbhhaheogjcaa
