/- MajorityChance. -/
import Derived.Test.YtednmmmnkcbpjaaWays
import Derived.Test.YtednmmmnkcbpjaaOpen
set_option linter.unusedVariables false
namespace Go.Proofs.Ytednmmmnkcbpjaa
open Go.RowKit

set_option maxHeartbeats 1000000 in
theorem ValidExperts_any (A : Option Addr) (c n B : Nat) (zs : List Int) (w : World) (h : Rd w B 1 A n (iv zs)) (hm : n ≤ 1048576) :
    Calls Try.prog 11 #[.slice A n c] w fun e w' => e = .returned (.bool (expB zs)) ∧ w = w' := by
  have HN := Lib.hid h.len
  have H := Lib.hid h
  clear h
  go_enter Try.func11, Try.ntmps11
  go_wp2
  go_loop [7] (fun i => ∃ k : Nat, k ≤ n ∧ i = .int .i64 k ∧ Hid (exTo zs k = true)) (fun i => n - (intOf i).toNat)
  case atStart => exact ⟨0, Nat.zero_le _, rfl, Lib.hid rfl⟩
  case round =>
    obtain ⟨k, hk, rfl, hf⟩ := hrel
    by_cases hlt : k < n
    · obtain ⟨z, hz, _⟩ := getD_of (l := zs) (i := k) (by rw [HN.out]; exact hlt)
      obtain ⟨b, o, rfl, hbB, hc⟩ := H.out.ints (by omega)
      have c0 : w.cell? ⟨b, o + k, none⟩ = some (.int .i64 z) := hc k z hz
      have HZ := Lib.hid hz
      clear hc hz
      cases hv : inB z 0 1000
      · have HF := Lib.hid (expB_bad HZ.out hv)
        go_wp2_with ((go_at_call 35; refine (isSure_any _ _).mono ?_; rintro e w' ⟨rfl, rfl⟩))
        go_ret
        exact ⟨ret_bool HF.out.symm, rfl⟩
      · have HF := Lib.hid (exTo_next hf.out HZ.out hv)
        go_wp2_with ((go_at_call 35; refine (isSure_any _ _).mono ?_; rintro e w' ⟨rfl, rfl⟩))
        go_round
        case rel => exact ⟨k + 1, by omega, by go_num, HF⟩
        case measure => simp [intOf]; omega
    · obtain rfl : k = n := by omega
      have HF := Lib.hid (expB_end HN.out hf.out)
      go_wp2_with ((go_at_call 36; refine (within_any _ _ _ _).mono ?_; rintro e w' ⟨rfl, rfl⟩))
      go_ret
      exact ⟨ret_bool HF.out.symm, rfl⟩
set_option maxHeartbeats 1000000 in
theorem l15Ok_any (A : Option Addr) (c n B : Nat) (zs : List Int) (w : World) (h : Rd w B 1 A n (iv zs)) (hm : n ≤ 1048576) :
    Calls Try.prog 38 #[.slice A n c] w fun e w' => e = .returned (.bool (expB zs)) ∧ w = w' := by
  have HN := Lib.hid h.len
  have H := Lib.hid h
  clear h
  go_enter Try.func38, Try.ntmps38
  go_wp2
  go_loop [3] (fun i => ∃ k : Nat, k ≤ n ∧ i = .int .i64 k ∧ Hid (exTo zs k = true)) (fun i => n - (intOf i).toNat)
  case atStart => exact ⟨0, Nat.zero_le _, rfl, Lib.hid rfl⟩
  case round =>
    obtain ⟨k, hk, rfl, hf⟩ := hrel
    by_cases hlt : k < n
    · obtain ⟨z, hz, _⟩ := getD_of (l := zs) (i := k) (by rw [HN.out]; exact hlt)
      obtain ⟨b, o, rfl, hbB, hc⟩ := H.out.ints (by omega)
      have c0 : w.cell? ⟨b, o + k, none⟩ = some (.int .i64 z) := hc k z hz
      have HZ := Lib.hid hz
      clear hc hz
      cases hv : inB z 0 1000
      · have HF := Lib.hid (expB_bad HZ.out hv)
        go_wp2_with ((go_at_call 52; refine (l15Share_any _ _).mono ?_; rintro e w' ⟨rfl, rfl⟩))
        go_ret
        exact ⟨ret_bool HF.out.symm, rfl⟩
      · have HF := Lib.hid (exTo_next hf.out HZ.out hv)
        go_wp2_with ((go_at_call 52; refine (l15Share_any _ _).mono ?_; rintro e w' ⟨rfl, rfl⟩))
        go_round
        case rel => exact ⟨k + 1, by omega, by go_num, HF⟩
        case measure => simp [intOf]; omega
    · obtain rfl : k = n := by omega
      have HF := Lib.hid (expB_end HN.out hf.out)
      by_cases hq : 0 < k
      · go_wp2
        go_ret
        exact ⟨ret_bool (by rw [HF.out]; simp [inB]; omega), rfl⟩
      · go_wp2
        go_ret
        exact ⟨ret_bool (by rw [HF.out]; simp [inB]; omega), rfl⟩
theorem allWays_any (n : Nat) (w : World) (hn : n ≤ 5) :
    Calls Try.prog 30 #[.int .i64 n] w fun e w' => e = .returned (.int .i64 (thou n)) ∧ w = w' := by
  go_enter Try.func30, Try.ntmps30
  go_wp2
  go_loop [3, 5] (fun x i => ∃ k : Nat, k ≤ n ∧ x = .int .i64 (thou k) ∧ i = .int .i64 k) (fun _ i => n - (intOf i).toNat)
  case atStart => exact ⟨0, Nat.zero_le _, rfl, rfl⟩
  case round =>
    obtain ⟨k, hk, rfl, rfl⟩ := hrel
    by_cases hlt : k < n
    · have t1 := thou_le (show k + 1 ≤ 5 by omega)
      have t0 := thou_pos k
      rw [thou] at t1
      go_wp2
      go_round
      case rel => exact ⟨k + 1, by omega, by rw [thou], by go_num⟩
      case measure => simp [intOf]; omega
    · obtain rfl : k = n := by omega
      go_wp2
      go_ret
      exact ⟨rfl, rfl⟩
theorem thou_div {n : Nat} (h2 : 2 ≤ n) (h5 : n ≤ 5) : thou n / 1000000 = thou (n - 2) := by
  match n, h2, h5 with
  | 2, _, _ => decide
  | 3, _, _ => decide
  | 4, _, _ => decide
  | 5, _, _ => decide
set_option maxHeartbeats 1000000 in
theorem chance_any (m : Int) (n : Nat) (w : World) (h1 : 1 ≤ n) (hn : n ≤ 5) (m0 : 0 ≤ m) (m1 : m ≤ 6000000000000000) :
    Calls Try.prog 31 #[.int .i64 m, .int .i64 n] w fun e w' => e = .returned (.int .i64 (chL m n)) ∧ w = w' := by
  by_cases h : n = 1
  · subst h
    rw [show chL m 1 = m * 1000 by simp [chL]]
    go_enter Try.func31, Try.ntmps31
    go_wp2
    go_ret
    exact ⟨rfl, rfl⟩
  · have q : ((n : Int) == 1) = false := by rw [Bool.eq_false_iff]; simp; omega
    rw [show chL m n = m / thou (n - 2) by simp [chL, h]]
    have td := Lib.hid (thou_div (n := n) (by omega) hn)
    have tp := thou_pos n
    have tq := thou_pos (n - 2)
    have tl := thou_le hn
    have hz : (thou n / 1000000 == 0) = false := by rw [td.out, Bool.eq_false_iff]; simp; omega
    have hz1 : 1 ≤ thou n / 1000000 := by rw [td.out]; exact tq
    have mb : 0 ≤ m / (thou n / 1000000) ∧ m / (thou n / 1000000) ≤ 6000000000000000 := ⟨Int.ediv_nonneg m0 (by omega), Int.le_trans (Int.ediv_le_self _ m0) m1⟩
    clear h
    go_enter Try.func31, Try.ntmps31
    go_wp2_with ((go_at_call 30; refine (allWays_any n _ hn).mono ?_; rintro e w' ⟨rfl, rfl⟩))
    go_ret
    exact ⟨ret_int (by rw [td.out]), rfl⟩
def partN (m : Int) : Nat → Int
  | 0 => m
  | j + 1 => partN m j / 1000
theorem partN_is (m : Int) (j : Nat) : partN m j = m / thou j := by
  induction j with
  | zero => simp [partN, thou]
  | succ j ih => rw [partN, ih, thou, Int.ediv_ediv_of_nonneg (by have := thou_pos j; omega)]
theorem partN_bd {m : Int} (m0 : 0 ≤ m) (m1 : m ≤ 6000000000000000) (j : Nat) : 0 ≤ partN m j ∧ partN m j ≤ 6000000000000000 := by
  induction j with
  | zero => exact ⟨m0, m1⟩
  | succ j ih => rw [partN]; omega
set_option maxHeartbeats 1000000 in
theorem l15Part_any (m : Int) (n : Nat) (w : World) (h1 : 1 ≤ n) (hn : n ≤ 5) (m0 : 0 ≤ m) (m1 : m ≤ 6000000000000000) :
    Calls Try.prog 39 #[.int .i64 m, .int .i64 n] w fun e w' => e = .returned (.int .i64 (chL m n)) ∧ w = w' := by
  by_cases h : n = 1
  · subst h
    rw [show chL m 1 = m * 1000 by simp [chL]]
    go_enter Try.func39, Try.ntmps39
    go_wp2
    refine wp_loop_rounds 1 ?_
    rw [rounds_succ]
    go_wp2
    refine wp_loop_rounds 2 ?_
    rw [rounds_succ]
    go_wp2
    rw [rounds_succ]
    go_wp2
    go_ret
    exact ⟨rfl, rfl⟩
  · have HC : Hid (chL m n = partN m (n - 2)) := Lib.hid (by rw [partN_is]; simp [chL, h])
    go_enter Try.func39, Try.ntmps39
    go_wp2
    go_loop [0, 1] (fun x i => ∃ j : Nat, j ≤ n - 2 ∧ x = .int .i64 (partN m j) ∧ i = .int .i64 ((n : Int) - j)) (fun _ i => (intOf i).toNat)
    case atStart => exact ⟨0, Nat.zero_le _, rfl, by simp⟩
    case round =>
      obtain ⟨j, hj, rfl, rfl⟩ := hrel
      have pb := partN_bd m0 m1 j
      by_cases hlt : j < n - 2
      · go_wp2
        go_round
        case rel => exact ⟨j + 1, by omega, by rw [partN], by go_num⟩
        case measure => simp [intOf]; omega
      · obtain rfl : j = n - 2 := by omega
        rw [show (n : Int) - ((n - 2 : Nat) : Int) = 2 by omega]
        go_wp2
        refine wp_loop_rounds 1 ?_
        rw [rounds_succ]
        go_wp2
        go_ret
        exact ⟨ret_int HC.out.symm, rfl⟩
theorem mjTo_bd {zs : List Int} {n : Nat} (h : ∀ k, 0 ≤ wy zs n k ∧ wy zs n k ≤ 1000000000000000) : ∀ k, 0 ≤ mjTo zs n k ∧ mjTo zs n k ≤ 1000000000000000 * k
  | 0 => by simp [mjTo]
  | k + 1 => by
    have ih := mjTo_bd h k
    have a := h k
    rw [mjTo]; split <;> push_cast <;> omega
theorem frTo_bd {zs : List Int} {n l : Nat} (h : ∀ k, 0 ≤ wy zs n k ∧ wy zs n k ≤ 1000000000000000) : ∀ k, 0 ≤ frTo zs n l k ∧ frTo zs n l k ≤ 1000000000000000 * k
  | 0 => by simp [frTo]
  | k + 1 => by
    have ih := frTo_bd (l := l) h k
    have a := h (l + k)
    rw [frTo]; push_cast; omega
theorem wy_small {zs : List Int} {n : Nat} (hl : zs.length = n) (hn : n ≤ 5) (hz : ∀ (k : Nat), k < n → 0 ≤ zs.getD k 0 ∧ zs.getD k 0 ≤ 1000) : ∀ k, 0 ≤ wy zs n k ∧ wy zs n k ≤ 1000000000000000 := by
  intro k
  have a := wy_bd (zs := zs) (by rw [hl]; exact hz) n k (by omega)
  have b := thou_le hn
  omega
set_option maxHeartbeats 1000000 in
theorem l15Most_any (A : Option Addr) (c n : Nat) (zs : List Int) (w : World) (h : Rd w w.heap.size 1 A n (iv zs)) (hn : n ≤ 5) (hz : ∀ (k : Nat), k < n → 0 ≤ zs.getD k 0 ∧ zs.getD k 0 ≤ 1000) :
    Calls Try.prog 40 #[.slice A n c] w fun e w' => e = .returned (.int .i64 (mj zs)) ∧ Below w.heap.size w w' := by
  have HN := Lib.hid h.len
  have HQ := Lib.hid (l15Ways_any A c n zs w h hn hz)
  have HW := Lib.hid (wy_small h.len hn hz)
  clear h hz
  go_enter Try.func40, Try.ntmps40
  go_wp2_with fail
  refine HQ.out.mono ?_
  rintro r w1 ⟨g, rfl, hg, F, hb⟩
  have HF := Lib.hid F
  have b1 := Lib.hid hb
  clear F hb HQ
  go_wp2
  go_loop [4, 5] (fun x i => ∃ k : Nat, k ≤ n + 1 ∧ x = .int .i64 (mjTo zs n k) ∧ i = .int .i64 k) (fun _ i => n + 1 - (intOf i).toNat)
  case atStart => exact ⟨0, Nat.zero_le _, rfl, rfl⟩
  case round =>
    obtain ⟨k, hk, rfl, rfl⟩ := hrel
    have mb := mjTo_bd HW.out k
    by_cases hlt : k < n + 1
    · have c0 := HF.out.cell hlt
      have wb := HW.out k
      have hl1 : (k : Int) < n + 1 := by omega
      by_cases h2 : n < 2 * k
      · have HX : Hid (mjTo zs n (k + 1) = mjTo zs n k + wy zs n k) := Lib.hid (by rw [mjTo, if_pos h2])
        go_wp2
        go_round
        case rel => exact ⟨k + 1, by omega, by rw [HX.out], by go_num⟩
        case measure => simp [intOf]; omega
      · have HX : Hid (mjTo zs n (k + 1) = mjTo zs n k) := Lib.hid (by rw [mjTo, if_neg h2]; omega)
        go_wp2
        go_round
        case rel => exact ⟨k + 1, by omega, by rw [HX.out], by go_num⟩
        case measure => simp [intOf]; omega
    · obtain rfl : k = n + 1 := by omega
      have HM : Hid (mj zs = mjTo zs n (n + 1)) := Lib.hid (by rw [mj, HN.out])
      go_wp2
      go_ret
      exact ⟨ret_int HM.out.symm, b1.out⟩
set_option maxHeartbeats 1000000 in
theorem waysFrom_any (A : Option Addr) (c n l : Nat) (zs : List Int) (w : World) (h : Rd w w.heap.size 1 A n (iv zs)) (hn : n ≤ 5) (hl : l ≤ n) (hz : ∀ (k : Nat), k < n → 0 ≤ zs.getD k 0 ∧ zs.getD k 0 ≤ 1000) :
    Calls Try.prog 32 #[.slice A n c, .int .i64 l] w fun e w' => e = .returned (.int .i64 (frTo zs n l (n + 1 - l))) ∧ Below w.heap.size w w' := by
  have HN := Lib.hid h.len
  have HQ := Lib.hid (rightWays_any A c n zs w h hn hz)
  have HW := Lib.hid (wy_small h.len hn hz)
  clear h hz
  have hne : ¬ n + 1 = l := by omega
  go_enter Try.func32, Try.ntmps32
  go_wp2_with fail
  refine HQ.out.mono ?_
  rintro r w1 ⟨g, rfl, hg, F, hb⟩
  have HF := Lib.hid F
  have b1 := Lib.hid hb
  clear F hb HQ
  go_wp2
  obtain ⟨m, hm⟩ : ∃ m, m = n + 1 - l := ⟨_, rfl⟩
  rw [← hm]
  have m1 : m + l ≤ n + 1 := by omega
  have m2 : n + 1 ≤ m + l := by omega
  have HM := Lib.hid hm
  clear hm
  go_loop [5, 13] (fun x i => ∃ k : Nat, k ≤ m ∧ x = .int .i64 (frTo zs n l k) ∧ i = .int .i64 k) (fun _ i => m - (intOf i).toNat)
  case atStart => exact ⟨0, Nat.zero_le _, rfl, rfl⟩
  case round =>
    obtain ⟨k, hk, rfl, rfl⟩ := hrel
    have mb := frTo_bd (l := l) HW.out k
    by_cases hlt : k < m
    · have c0 := HF.out.cell (k := l + k) (by omega)
      have wb := HW.out (l + k)
      go_wp2
      go_round
      case rel => exact ⟨k + 1, by omega, by rw [frTo], by go_num⟩
      case measure => simp [intOf]; omega
    · obtain rfl : k = m := by omega
      go_wp2
      go_ret
      exact ⟨ret_int (by rw [← HM.out]), b1.out⟩
set_option maxHeartbeats 1000000 in
theorem majority_any (A : Option Addr) (c n : Nat) (zs : List Int) (w : World) (h : Rd w w.heap.size 1 A n (iv zs)) (h1 : 1 ≤ n) (hn : n ≤ 5) (hz : ∀ (k : Nat), k < n → 0 ≤ zs.getD k 0 ∧ zs.getD k 0 ≤ 1000) :
    Calls Try.prog 29 #[.slice A n c] w fun e w' => e = .returned (.int .i64 (mj zs)) ∧ Below w.heap.size w w' := by
  have HN := Lib.hid h.len
  have HQ := Lib.hid (waysFrom_any A c n (n / 2 + 1) zs w h hn (by omega) hz)
  have HM : Hid (frTo zs n (n / 2 + 1) (n + 1 - (n / 2 + 1)) = mj zs) := Lib.hid (by rw [mj, HN.out, ← mj_fr zs n hn, show n + 1 - (n / 2 + 1) = n - n / 2 by omega])
  clear h hz
  go_enter Try.func29, Try.ntmps29
  go_wp2_with fail
  refine Calls.mono (show Calls Try.prog 32 #[.slice A n c, .int .i64 ((n : Int) / 2 + 1)] w _ by have := HQ.out; rw [show (((n / 2 + 1 : Nat)) : Int) = (n : Int) / 2 + 1 by push_cast; rfl] at this; exact this) ?_
  rintro r w1 ⟨rfl, hb⟩
  rw [HM.out]
  have b1 := Lib.hid hb
  clear hb HQ
  go_wp2
  go_ret
  exact ⟨rfl, b1.out⟩
theorem mj_bd {zs : List Int} (h : expB zs = true) : 0 ≤ mj zs ∧ mj zs ≤ 6000000000000000 := by
  have E := expB_t h
  have := mjTo_bd (wy_small rfl E.2.1 E.2.2) (zs.length + 1)
  unfold mj
  omega
set_option maxHeartbeats 1000000 in
theorem MajorityChance_i (A : Option Addr) (c n : Nat) (zs : List Int) (w : World) (h : Rd w w.heap.size 1 A n (iv zs)) (hm : n ≤ 1048576) (hz : ∀ z ∈ zs, i64R z) :
    Calls Try.prog 8 #[.slice A n c] w fun e w' => e = .returned (.tuple #[.int .i64 (MajorityChance_L zs).1, .int .i64 (MajorityChance_L zs).2]) ∧ Below w.heap.size w w' := by
  have HN := Lib.hid h.len
  have H := Lib.hid h
  clear h hz
  cases hp : expB zs
  · rw [show MajorityChance_L zs = (0, 1) by simp [MajorityChance_L, hp]]
    go_enter Try.func8, Try.ntmps8
    go_wp2_with ((go_at_call 11; refine (ValidExperts_any _ _ _ _ zs _ H.out hm).mono ?_; rintro e w' ⟨rfl, rfl⟩))
    go_ret2
    exact ⟨rfl, Below.refl _ _⟩
  · have E := expB_t hp
    rw [HN.out] at E
    have e1 := E.1
    have e5 := E.2.1
    have HE := Lib.hid E.2.2
    have mb := mj_bd hp
    rw [show MajorityChance_L zs = (chL (mj zs) n, 0) by simp [MajorityChance_L, hp, HN.out]]
    clear E
    go_enter Try.func8, Try.ntmps8
    go_wp2_with ((go_at_call 11; refine (ValidExperts_any _ _ _ _ zs _ H.out hm).mono ?_; rintro e w' ⟨rfl, rfl⟩))
    refine (majority_any _ _ n zs _ H.out e1 e5 HE.out).mono ?_
    rintro r w1 ⟨rfl, hb⟩
    have b1 := Lib.hid hb
    clear hb hp
    go_wp2_with ((go_at_call 31; refine (chance_any (mj zs) n _ e1 e5 mb.1 mb.2).mono ?_; rintro e w' ⟨rfl, rfl⟩))
    go_ret2
    exact ⟨rfl, b1.out⟩
set_option maxHeartbeats 1000000 in
theorem MajorityChance_s (A : Option Addr) (c n : Nat) (zs : List Int) (w : World) (h : Rd w w.heap.size 1 A n (iv zs)) (hm : n ≤ 1048576) (hz : ∀ z ∈ zs, i64R z) :
    Calls Try.prog 13 #[.slice A n c] w fun e w' => e = .returned (.tuple #[.int .i64 (MajorityChance_L zs).1, .int .i64 (MajorityChance_L zs).2]) ∧ Below w.heap.size w w' := by
  have HN := Lib.hid h.len
  have H := Lib.hid h
  clear h hz
  cases hp : expB zs
  · rw [show MajorityChance_L zs = (0, 1) by simp [MajorityChance_L, hp]]
    go_enter Try.func13, Try.ntmps13
    go_wp2_with ((go_at_call 38; refine (l15Ok_any _ _ _ _ zs _ H.out hm).mono ?_; rintro e w' ⟨rfl, rfl⟩))
    go_ret2
    exact ⟨rfl, Below.refl _ _⟩
  · have E := expB_t hp
    rw [HN.out] at E
    have e1 := E.1
    have e5 := E.2.1
    have HE := Lib.hid E.2.2
    have mb := mj_bd hp
    rw [show MajorityChance_L zs = (chL (mj zs) n, 0) by simp [MajorityChance_L, hp, HN.out]]
    clear E
    go_enter Try.func13, Try.ntmps13
    go_wp2_with ((go_at_call 38; refine (l15Ok_any _ _ _ _ zs _ H.out hm).mono ?_; rintro e w' ⟨rfl, rfl⟩))
    refine (l15Most_any _ _ n zs _ H.out e5 HE.out).mono ?_
    rintro r w1 ⟨rfl, hb⟩
    have b1 := Lib.hid hb
    clear hb hp
    go_wp2_with ((go_at_call 39; refine (l15Part_any (mj zs) n _ e1 e5 mb.1 mb.2).mono ?_; rintro e w' ⟨rfl, rfl⟩))
    go_ret2
    exact ⟨rfl, b1.out⟩
end Go.Proofs.Ytednmmmnkcbpjaa
