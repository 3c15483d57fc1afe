/- Drying: even moisture, moisture after days. -/
import Derived.Test.YthmpcpcmmahheaaDiv
import Derived.Test.YthmpcpcmmahheaaMem
set_option linter.unusedVariables false
namespace Go.Proofs.Ythmpcpcmmahheaa
open Go.RowKit

theorem isPart_any (n : Int) (w : World) :
    Calls Try.prog 62 #[.int .i64 n] w fun e w' => e = .returned (.bool (inB n (0) (1000))) ∧ w = w' := by
  go_enter Try.func62, Try.ntmps62
  go_wp2_with (go_at_call 56; refine (within_any _ _ _ _).mono ?_; rintro e w' ⟨rfl, rfl⟩)
  go_ret
  exact ⟨rfl, rfl⟩
theorem isDry_any (n : Int) (w : World) :
    Calls Try.prog 63 #[.int .i64 n] w fun e w' => e = .returned (.bool (inB n (0) (4000))) ∧ w = w' := by
  go_enter Try.func63, Try.ntmps63
  go_wp2_with (go_at_call 56; refine (within_any _ _ _ _).mono ?_; rintro e w' ⟨rfl, rfl⟩)
  go_ret
  exact ⟨rfl, rfl⟩
theorem l04Share_any (n : Int) (w : World) :
    Calls Try.prog 58 #[.int .i64 n] w fun e w' => e = .returned (.bool (inB n (0) (1000))) ∧ w = w' := by
  go_enter Try.func58, Try.ntmps58
  go_wp2_with (go_at_call 66; refine (l00In_any _ _ _ _).mono ?_; rintro e w' ⟨rfl, rfl⟩)
  go_ret
  exact ⟨rfl, rfl⟩
theorem l04Days_any (n : Int) (w : World) :
    Calls Try.prog 59 #[.int .i64 n] w fun e w' => e = .returned (.bool (inB n (0) (4000))) ∧ w = w' := by
  go_enter Try.func59, Try.ntmps59
  go_wp2_with (go_at_call 66; refine (l00In_any _ _ _ _).mono ?_; rintro e w' ⟨rfl, rfl⟩)
  go_ret
  exact ⟨rfl, rfl⟩
def lineL (x0 y0 x1 y1 x : Int) : Int := if x ≤ x0 then y0 else if x1 ≤ x then y1 else y0 + divL ((y1 - y0) * (x - x0)) (x1 - x0)
theorem line_bd {x0 y0 x1 y1 x : Int} (a : 0 ≤ x0) (b : x0 < x1) (c : x1 ≤ 1000) (d : 0 ≤ y0) (e : y0 ≤ y1) (f : y1 ≤ 280) (g : x0 < x) (h : x < x1) : 0 ≤ (y1 - y0) * (x - x0) ∧ (y1 - y0) * (x - x0) ≤ 280000 ∧ 0 ≤ divL ((y1 - y0) * (x - x0)) (x1 - x0) ∧ divL ((y1 - y0) * (x - x0)) (x1 - x0) ≤ y1 - y0 := by
  have m := mul_bd (show 0 ≤ y1 - y0 by omega) (show y1 - y0 ≤ 280 by omega) (show 0 ≤ x - x0 by omega) (show x - x0 ≤ 1000 by omega)
  have k : (y1 - y0) * (x - x0) ≤ (y1 - y0) * (x1 - x0) := Int.mul_le_mul_of_nonneg_left (by omega) (by omega)
  have q : divL ((y1 - y0) * (x - x0)) (x1 - x0) = (2 * ((y1 - y0) * (x - x0)) + (x1 - x0)) / (2 * (x1 - x0)) := by unfold divL; rw [if_neg (by omega)]
  refine ⟨m.1, by omega, ?_, ?_⟩
  · rw [q]; exact Int.ediv_nonneg (by omega) (by omega)
  · rw [q]
    have : (2 * ((y1 - y0) * (x - x0)) + (x1 - x0)) / (2 * (x1 - x0)) < (y1 - y0) + 1 := (Int.ediv_lt_iff_lt_mul (by omega)).2 (by
      have e2 : (y1 - y0 + 1) * (2 * (x1 - x0)) = 2 * ((y1 - y0) * (x1 - x0)) + 2 * (x1 - x0) := by rw [Int.add_mul, Int.one_mul]; congr 1; rw [← Int.mul_assoc, Int.mul_comm (y1 - y0) 2, Int.mul_assoc]
      rw [e2]; omega)
    omega
set_option maxHeartbeats 1000000 in
theorem blend_any (x0 y0 x1 y1 x : Int) (w : World) (a : 0 ≤ x0) (b : x0 < x1) (c : x1 ≤ 1000) (d : 0 ≤ y0) (e : y0 ≤ y1) (f : y1 ≤ 280) :
    Calls Try.prog 87 #[.int .i64 x0, .int .i64 y0, .int .i64 x1, .int .i64 y1, .int .i64 x] w fun e w' => e = .returned (.int .i64 (lineL x0 y0 x1 y1 x)) ∧ w = w' := by
  by_cases g : x ≤ x0
  · rw [show lineL x0 y0 x1 y1 x = y0 by simp [lineL, g]]
    go_enter Try.func87, Try.ntmps87
    go_wp2
    go_ret
    exact ⟨rfl, rfl⟩
  by_cases h : x1 ≤ x
  · rw [show lineL x0 y0 x1 y1 x = y1 by simp [lineL, g, h]]
    go_enter Try.func87, Try.ntmps87
    go_wp2
    go_ret
    exact ⟨rfl, rfl⟩
  · have m := line_bd (x := x) a b c d e f (by omega) (by omega)
    rw [show lineL x0 y0 x1 y1 x = y0 + divL ((y1 - y0) * (x - x0)) (x1 - x0) by simp [lineL, g, h]]
    go_enter Try.func87, Try.ntmps87
    go_wp2_with ((go_at_call 88; refine (divRound_any _ _ _ (by omega) (by omega)).mono ?_; rintro e w' ⟨rfl, rfl⟩))
    go_ret
    exact ⟨rfl, rfl⟩
set_option maxHeartbeats 1000000 in
theorem l01Line_any (x0 y0 x1 y1 x : Int) (w : World) (a : 0 ≤ x0) (b : x0 < x1) (c : x1 ≤ 1000) (d : 0 ≤ y0) (e : y0 ≤ y1) (f : y1 ≤ 280) :
    Calls Try.prog 78 #[.int .i64 x0, .int .i64 y0, .int .i64 x1, .int .i64 y1, .int .i64 x] w fun e w' => e = .returned (.int .i64 (lineL x0 y0 x1 y1 x)) ∧ w = w' := by
  by_cases g : x ≤ x0
  · rw [show lineL x0 y0 x1 y1 x = y0 by simp [lineL, g]]
    go_enter Try.func78, Try.ntmps78
    go_wp2
    go_ret
    exact ⟨rfl, rfl⟩
  by_cases h : x1 ≤ x
  · rw [show lineL x0 y0 x1 y1 x = y1 by simp [lineL, g, h]]
    go_enter Try.func78, Try.ntmps78
    go_wp2
    go_ret
    exact ⟨rfl, rfl⟩
  · have m := line_bd (x := x) a b c d e f (by omega) (by omega)
    rw [show lineL x0 y0 x1 y1 x = y0 + divL ((y1 - y0) * (x - x0)) (x1 - x0) by simp [lineL, g, h]]
    go_enter Try.func78, Try.ntmps78
    go_wp2_with ((go_at_call 86; refine (l01Div_any _ _ _ (by omega) (by omega)).mono ?_; rintro e w' ⟨rfl, rfl⟩))
    go_ret
    exact ⟨rfl, rfl⟩
def evenL (h : Int) : Int := if h ≤ 300 then lineL 0 0 300 60 h else if h ≤ 600 then lineL 300 60 600 110 h else if h ≤ 800 then lineL 600 110 800 160 h else lineL 800 160 1000 280 h
theorem line_in {x0 y0 x1 y1 x : Int} (a : 0 ≤ x0) (b : x0 < x1) (c : x1 ≤ 1000) (d : 0 ≤ y0) (e : y0 ≤ y1) (f : y1 ≤ 280) : 0 ≤ lineL x0 y0 x1 y1 x ∧ lineL x0 y0 x1 y1 x ≤ 280 := by
  unfold lineL
  split
  · omega
  · split
    · omega
    · have := line_bd (x := x) a b c d e f (by omega) (by omega)
      omega
theorem even_in (h : Int) : 0 ≤ evenL h ∧ evenL h ≤ 280 := by
  unfold evenL
  split
  · exact line_in (by omega) (by omega) (by omega) (by omega) (by omega) (by omega)
  · split
    · exact line_in (by omega) (by omega) (by omega) (by omega) (by omega) (by omega)
    · split
      · exact line_in (by omega) (by omega) (by omega) (by omega) (by omega) (by omega)
      · exact line_in (by omega) (by omega) (by omega) (by omega) (by omega) (by omega)
def chgL (m e t : Int) : Int := divL (20 * (e - m)) (t + 20)
theorem chg_bd {m e t : Int} (m0 : 0 ≤ m) (m1 : m ≤ 1000) (e0 : 0 ≤ e) (e1 : e ≤ 280) (t0 : 10 ≤ t) (t1 : t ≤ 1000) : -1000 ≤ chgL m e t ∧ chgL m e t ≤ 1000 ∧ 0 ≤ m + chgL m e t ∧ m + chgL m e t ≤ 1000 := by
  have key : ∀ d : Int, 0 ≤ d → 0 ≤ (2 * (20 * d) + (t + 20)) / (2 * (t + 20)) ∧ (2 * (20 * d) + (t + 20)) / (2 * (t + 20)) ≤ d := by
    intro d hd
    refine ⟨Int.ediv_nonneg (by omega) (by omega), ?_⟩
    have : (2 * (20 * d) + (t + 20)) / (2 * (t + 20)) < d + 1 := (Int.ediv_lt_iff_lt_mul (by omega)).2 (by
      have e2 : (d + 1) * (2 * (t + 20)) = 2 * (d * t) + 40 * d + 2 * (t + 20) := by rw [Int.add_mul, Int.one_mul, Int.mul_add 2 t 20, Int.mul_add, ← Int.mul_assoc d 2 t, Int.mul_comm d 2, Int.mul_assoc]; omega
      have := Int.mul_nonneg hd (show 0 ≤ t by omega)
      rw [e2]; omega)
    omega
  unfold chgL divL
  split
  · have := key (m - e) (by omega)
    rw [show t + 20 - 2 * (20 * (e - m)) = 2 * (20 * (m - e)) + (t + 20) by omega]
    omega
  · have := key (e - m) (by omega)
    omega
theorem change_any (m e t : Int) (w : World) (m0 : 0 ≤ m) (m1 : m ≤ 1000) (e0 : 0 ≤ e) (e1 : e ≤ 280) (t0 : 10 ≤ t) (t1 : t ≤ 1000) :
    Calls Try.prog 80 #[.int .i64 m, .int .i64 e, .int .i64 t] w fun r w' => r = .returned (.int .i64 (chgL m e t)) ∧ w = w' := by
  unfold chgL
  go_enter Try.func80, Try.ntmps80
  go_wp2_with ((go_at_call 88; refine (divRound_any _ _ _ (by omega) (by omega)).mono ?_; rintro e w' ⟨rfl, rfl⟩))
  go_ret
  exact ⟨rfl, rfl⟩
theorem l04Change_any (m e t : Int) (w : World) (m0 : 0 ≤ m) (m1 : m ≤ 1000) (e0 : 0 ≤ e) (e1 : e ≤ 280) (t0 : 10 ≤ t) (t1 : t ≤ 1000) :
    Calls Try.prog 77 #[.int .i64 m, .int .i64 e, .int .i64 t] w fun r w' => r = .returned (.int .i64 (chgL m e t)) ∧ w = w' := by
  unfold chgL
  go_enter Try.func77, Try.ntmps77
  go_wp2_with ((go_at_call 86; refine (l01Div_any _ _ _ (by omega) (by omega)).mono ?_; rintro e w' ⟨rfl, rfl⟩))
  go_ret
  exact ⟨rfl, rfl⟩
def aft (m e t : Int) : Nat → Int
  | 0 => m
  | k + 1 => aft m e t k + chgL (aft m e t k) e t
theorem aft_bd {m e t : Int} (m0 : 0 ≤ m) (m1 : m ≤ 1000) (e0 : 0 ≤ e) (e1 : e ≤ 280) (t0 : 10 ≤ t) (t1 : t ≤ 1000) (k : Nat) : 0 ≤ aft m e t k ∧ aft m e t k ≤ 1000 := by
  induction k with
  | zero => exact ⟨m0, m1⟩
  | succ k ih => have := chg_bd ih.1 ih.2 e0 e1 t0 t1; rw [aft]; omega
theorem aft_stop {m e t : Int} {k : Nat} (h : chgL (aft m e t k) e t = 0) : ∀ j, aft m e t (k + j) = aft m e t k
  | 0 => rfl
  | j + 1 => by rw [← Nat.add_assoc, aft, aft_stop h j, h]; omega
set_option maxHeartbeats 1000000 in
theorem l04After_any (m e t : Int) (n : Nat) (w : World) (m0 : 0 ≤ m) (m1 : m ≤ 1000) (e0 : 0 ≤ e) (e1 : e ≤ 280) (t0 : 10 ≤ t) (t1 : t ≤ 1000) (hn : n ≤ 4000) :
    Calls Try.prog 60 #[.int .i64 m, .int .i64 e, .int .i64 t, .int .i64 n] w fun r w' => r = .returned (.int .i64 (aft m e t n)) ∧ w = w' := by
  go_enter Try.func60, Try.ntmps60
  go_wp2
  go_loop [0, 9] (fun x i => ∃ k : Nat, k ≤ n ∧ x = .int .i64 (aft m e t k) ∧ i = .int .i64 k) (fun _ i => n - (intOf i).toNat)
  case atStart => exact ⟨0, Nat.zero_le _, rfl, rfl⟩
  case round =>
    obtain ⟨k, hk, rfl, rfl⟩ := hrel
    have ab := aft_bd m0 m1 e0 e1 t0 t1 k
    have cb := chg_bd ab.1 ab.2 e0 e1 t0 t1
    by_cases hlt : k < n
    · by_cases hc : chgL (aft m e t k) e t = 0
      · have HS : Hid (aft m e t k = aft m e t n) := Lib.hid (by have := aft_stop hc (n - k); rw [show k + (n - k) = n by omega] at this; exact this.symm)
        have q : (chgL (aft m e t k) e t == 0) = true := by simpa using hc
        clear hc
        go_wp2_with ((go_at_call 77; refine (l04Change_any _ _ _ _ ab.1 ab.2 e0 e1 t0 t1).mono ?_; rintro e w' ⟨rfl, rfl⟩))
        go_ret
        exact ⟨ret_int HS.out, rfl⟩
      · have q : (chgL (aft m e t k) e t == 0) = false := by simpa using hc
        clear hc
        go_wp2_with ((go_at_call 77; refine (l04Change_any _ _ _ _ ab.1 ab.2 e0 e1 t0 t1).mono ?_; rintro e w' ⟨rfl, rfl⟩))
        go_round
        case rel => exact ⟨k + 1, by omega, by rw [aft], by go_num⟩
        case measure => simp [intOf]; omega
    · obtain rfl : k = n := by omega
      go_wp2
      go_ret
      exact ⟨rfl, rfl⟩
set_option maxHeartbeats 2000000 in
theorem even_any (h : Int) (w : World) (h0 : 0 ≤ h) (h1 : h ≤ 1000) :
    Calls Try.prog 79 #[.int .i64 h] w fun r w' => r = .returned (.int .i64 (evenL h)) ∧ Below w.heap.size w w' := by
  have hk := Lib.hid (Blk.new w 94 #[.int .i64 0, .int .i64 0, .int .i64 300, .int .i64 60, .int .i64 600, .int .i64 110, .int .i64 800, .int .i64 160, .int .i64 1000, .int .i64 280])
  have hb0 := Lib.hid ((Below.refl w.heap.size w).alloc (Nat.le_refl _) (.cells #[.int .i64 0, .int .i64 0, .int .i64 300, .int .i64 60, .int .i64 600, .int .i64 110, .int .i64 800, .int .i64 160, .int .i64 1000, .int .i64 280] 94))
  unfold evenL
  by_cases g1 : h ≤ 300
  · rw [if_pos g1]
    go_enter Try.func79, Try.ntmps79
    go_wp2
    refine wp_loop_rounds 1 ?_
    rw [rounds_succ]
    go_wp2
    generalize w.alloc (.cells #[.int .i64 0, .int .i64 0, .int .i64 300, .int .i64 60, .int .i64 600, .int .i64 110, .int .i64 800, .int .i64 160, .int .i64 1000, .int .i64 280] 94) = W at hk hb0 ⊢
    have hc := bel_cell hk.out hk.out.lt
    (refine wp_region_bel W.heap.size W (Below.refl _ _) (by kernel_rfl) (by kernel_rfl) ?_; (repeat (go_big_quiet_step ((first | (go_at_call 87; exact bel_same (blend_any _ _ _ _ _ _ (by omega) (by omega) (by omega) (by omega) (by omega) (by omega))))))); refine wpQuiet_nil ?_; rintro w1 ⟨⟨_, hb1⟩, rfl⟩)
    clear hc
    go_wp2
    go_ret
    exact ⟨rfl, below_more hb0.out hb1 (Nat.le_refl _)⟩
  by_cases g2 : h ≤ 600
  · rw [if_neg g1, if_pos g2]
    go_enter Try.func79, Try.ntmps79
    go_wp2
    refine wp_loop_rounds 2 ?_
    rw [rounds_succ]
    go_wp2
    rw [rounds_succ]
    go_wp2
    generalize w.alloc (.cells #[.int .i64 0, .int .i64 0, .int .i64 300, .int .i64 60, .int .i64 600, .int .i64 110, .int .i64 800, .int .i64 160, .int .i64 1000, .int .i64 280] 94) = W at hk hb0 ⊢
    have hc := bel_cell hk.out hk.out.lt
    (refine wp_region_bel W.heap.size W (Below.refl _ _) (by kernel_rfl) (by kernel_rfl) ?_; (repeat (go_big_quiet_step ((first | (go_at_call 87; exact bel_same (blend_any _ _ _ _ _ _ (by omega) (by omega) (by omega) (by omega) (by omega) (by omega))))))); refine wpQuiet_nil ?_; rintro w1 ⟨⟨_, hb1⟩, rfl⟩)
    clear hc
    go_wp2
    go_ret
    exact ⟨rfl, below_more hb0.out hb1 (Nat.le_refl _)⟩
  by_cases g3 : h ≤ 800
  · rw [if_neg g1, if_neg g2, if_pos g3]
    go_enter Try.func79, Try.ntmps79
    go_wp2
    refine wp_loop_rounds 3 ?_
    rw [rounds_succ]
    go_wp2
    rw [rounds_succ]
    go_wp2
    rw [rounds_succ]
    go_wp2
    generalize w.alloc (.cells #[.int .i64 0, .int .i64 0, .int .i64 300, .int .i64 60, .int .i64 600, .int .i64 110, .int .i64 800, .int .i64 160, .int .i64 1000, .int .i64 280] 94) = W at hk hb0 ⊢
    have hc := bel_cell hk.out hk.out.lt
    (refine wp_region_bel W.heap.size W (Below.refl _ _) (by kernel_rfl) (by kernel_rfl) ?_; (repeat (go_big_quiet_step ((first | (go_at_call 87; exact bel_same (blend_any _ _ _ _ _ _ (by omega) (by omega) (by omega) (by omega) (by omega) (by omega))))))); refine wpQuiet_nil ?_; rintro w1 ⟨⟨_, hb1⟩, rfl⟩)
    clear hc
    go_wp2
    go_ret
    exact ⟨rfl, below_more hb0.out hb1 (Nat.le_refl _)⟩
  · rw [if_neg g1, if_neg g2, if_neg g3]
    go_enter Try.func79, Try.ntmps79
    go_wp2
    refine wp_loop_rounds 4 ?_
    rw [rounds_succ]
    go_wp2
    rw [rounds_succ]
    go_wp2
    rw [rounds_succ]
    go_wp2
    rw [rounds_succ]
    go_wp2
    generalize w.alloc (.cells #[.int .i64 0, .int .i64 0, .int .i64 300, .int .i64 60, .int .i64 600, .int .i64 110, .int .i64 800, .int .i64 160, .int .i64 1000, .int .i64 280] 94) = W at hk hb0 ⊢
    have hc := bel_cell hk.out hk.out.lt
    (refine wp_region_bel W.heap.size W (Below.refl _ _) (by kernel_rfl) (by kernel_rfl) ?_; (repeat (go_big_quiet_step ((first | (go_at_call 87; exact bel_same (blend_any _ _ _ _ _ _ (by omega) (by omega) (by omega) (by omega) (by omega) (by omega))))))); refine wpQuiet_nil ?_; rintro w1 ⟨⟨_, hb1⟩, rfl⟩)
    clear hc
    go_wp2
    go_ret
    exact ⟨rfl, below_more hb0.out hb1 (Nat.le_refl _)⟩
set_option maxHeartbeats 2000000 in
theorem l04Even_any (h : Int) (w : World) (h0 : 0 ≤ h) (h1 : h ≤ 1000) :
    Calls Try.prog 61 #[.int .i64 h] w fun r w' => r = .returned (.int .i64 (evenL h)) ∧ Below w.heap.size w w' := by
  have hk := Lib.hid ((Blk.new w 2 #[.int .i64 0, .int .i64 300, .int .i64 600, .int .i64 800, .int .i64 1000]).alloc (.cells #[.int .i64 0, .int .i64 60, .int .i64 110, .int .i64 160, .int .i64 280] 2))
  have hl := Lib.hid (Blk.new (w.alloc (.cells #[.int .i64 0, .int .i64 300, .int .i64 600, .int .i64 800, .int .i64 1000] 2)) 2 #[.int .i64 0, .int .i64 60, .int .i64 110, .int .i64 160, .int .i64 280])
  rw [show (w.alloc (.cells #[.int .i64 0, .int .i64 300, .int .i64 600, .int .i64 800, .int .i64 1000] 2)).heap.size = w.heap.size + 1 by simp] at hl
  have hb0 := Lib.hid (((Below.refl w.heap.size w).alloc (Nat.le_refl _) (.cells #[.int .i64 0, .int .i64 300, .int .i64 600, .int .i64 800, .int .i64 1000] 2)).alloc (by simp) (.cells #[.int .i64 0, .int .i64 60, .int .i64 110, .int .i64 160, .int .i64 280] 2))
  unfold evenL
  by_cases g1 : h ≤ 300
  · rw [if_pos g1]
    go_enter Try.func61, Try.ntmps61
    go_wp2
    refine wp_loop_rounds 1 ?_
    rw [rounds_succ]
    go_wp2
    generalize (w.alloc (.cells #[.int .i64 0, .int .i64 300, .int .i64 600, .int .i64 800, .int .i64 1000] 2)).alloc (.cells #[.int .i64 0, .int .i64 60, .int .i64 110, .int .i64 160, .int .i64 280] 2) = W at hk hl hb0 ⊢
    have hc := bel_cell hk.out hk.out.lt
    have hd := bel_cell hl.out hl.out.lt
    (refine wp_region_bel W.heap.size W (Below.refl _ _) (by kernel_rfl) (by kernel_rfl) ?_; (repeat (go_big_quiet_step ((first | (go_at_call 78; exact bel_same (l01Line_any _ _ _ _ _ _ (by omega) (by omega) (by omega) (by omega) (by omega) (by omega))))))); refine wpQuiet_nil ?_; rintro w1 ⟨⟨_, hb1⟩, rfl⟩)
    clear hc hd
    go_wp2
    go_ret
    exact ⟨rfl, below_more hb0.out hb1 (Nat.le_refl _)⟩
  by_cases g2 : h ≤ 600
  · rw [if_neg g1, if_pos g2]
    go_enter Try.func61, Try.ntmps61
    go_wp2
    refine wp_loop_rounds 2 ?_
    rw [rounds_succ]
    go_wp2
    rw [rounds_succ]
    go_wp2
    generalize (w.alloc (.cells #[.int .i64 0, .int .i64 300, .int .i64 600, .int .i64 800, .int .i64 1000] 2)).alloc (.cells #[.int .i64 0, .int .i64 60, .int .i64 110, .int .i64 160, .int .i64 280] 2) = W at hk hl hb0 ⊢
    have hc := bel_cell hk.out hk.out.lt
    have hd := bel_cell hl.out hl.out.lt
    (refine wp_region_bel W.heap.size W (Below.refl _ _) (by kernel_rfl) (by kernel_rfl) ?_; (repeat (go_big_quiet_step ((first | (go_at_call 78; exact bel_same (l01Line_any _ _ _ _ _ _ (by omega) (by omega) (by omega) (by omega) (by omega) (by omega))))))); refine wpQuiet_nil ?_; rintro w1 ⟨⟨_, hb1⟩, rfl⟩)
    clear hc hd
    go_wp2
    go_ret
    exact ⟨rfl, below_more hb0.out hb1 (Nat.le_refl _)⟩
  by_cases g3 : h ≤ 800
  · rw [if_neg g1, if_neg g2, if_pos g3]
    go_enter Try.func61, Try.ntmps61
    go_wp2
    refine wp_loop_rounds 3 ?_
    rw [rounds_succ]
    go_wp2
    rw [rounds_succ]
    go_wp2
    rw [rounds_succ]
    go_wp2
    generalize (w.alloc (.cells #[.int .i64 0, .int .i64 300, .int .i64 600, .int .i64 800, .int .i64 1000] 2)).alloc (.cells #[.int .i64 0, .int .i64 60, .int .i64 110, .int .i64 160, .int .i64 280] 2) = W at hk hl hb0 ⊢
    have hc := bel_cell hk.out hk.out.lt
    have hd := bel_cell hl.out hl.out.lt
    (refine wp_region_bel W.heap.size W (Below.refl _ _) (by kernel_rfl) (by kernel_rfl) ?_; (repeat (go_big_quiet_step ((first | (go_at_call 78; exact bel_same (l01Line_any _ _ _ _ _ _ (by omega) (by omega) (by omega) (by omega) (by omega) (by omega))))))); refine wpQuiet_nil ?_; rintro w1 ⟨⟨_, hb1⟩, rfl⟩)
    clear hc hd
    go_wp2
    go_ret
    exact ⟨rfl, below_more hb0.out hb1 (Nat.le_refl _)⟩
  · rw [if_neg g1, if_neg g2, if_neg g3]
    go_enter Try.func61, Try.ntmps61
    go_wp2
    refine wp_loop_rounds 4 ?_
    rw [rounds_succ]
    go_wp2
    rw [rounds_succ]
    go_wp2
    rw [rounds_succ]
    go_wp2
    rw [rounds_succ]
    go_wp2
    generalize (w.alloc (.cells #[.int .i64 0, .int .i64 300, .int .i64 600, .int .i64 800, .int .i64 1000] 2)).alloc (.cells #[.int .i64 0, .int .i64 60, .int .i64 110, .int .i64 160, .int .i64 280] 2) = W at hk hl hb0 ⊢
    have hc := bel_cell hk.out hk.out.lt
    have hd := bel_cell hl.out hl.out.lt
    (refine wp_region_bel W.heap.size W (Below.refl _ _) (by kernel_rfl) (by kernel_rfl) ?_; (repeat (go_big_quiet_step ((first | (go_at_call 78; exact bel_same (l01Line_any _ _ _ _ _ _ (by omega) (by omega) (by omega) (by omega) (by omega) (by omega))))))); refine wpQuiet_nil ?_; rintro w1 ⟨⟨_, hb1⟩, rfl⟩)
    clear hc hd
    go_wp2
    go_ret
    exact ⟨rfl, below_more hb0.out hb1 (Nat.le_refl _)⟩
set_option maxHeartbeats 2000000 in
theorem after_any (m t h : Int) (n : Nat) (w : World) (m0 : 0 ≤ m) (m1 : m ≤ 1000) (t0 : 10 ≤ t) (t1 : t ≤ 1000) (h0 : 0 ≤ h) (h1 : h ≤ 1000) (hn : n ≤ 4000) :
    Calls Try.prog 64 #[.agg #[.string ByteArray.empty, .int .i64 m, .int .i64 t, .int .i64 0], .int .i64 h, .int .i64 n] w fun r w' => r = .returned (.int .i64 (aft m (evenL h) t n)) ∧ Below w.heap.size w w' := by
  have ev := even_in h
  have hk := Lib.hid (Blk.new w 78 #[.string ByteArray.empty, .int .i64 m, .int .i64 t, .int .i64 0])
  have hb0 := Lib.hid ((Below.refl w.heap.size w).alloc (Nat.le_refl _) (.cells #[.string ByteArray.empty, .int .i64 m, .int .i64 t, .int .i64 0] 78))
  go_enter Try.func64, Try.ntmps64
  go_wp2_with fail
  generalize w.alloc (.cells #[.string ByteArray.empty, .int .i64 m, .int .i64 t, .int .i64 0] 78) = W at hk hb0 ⊢
  have hc := bel_cell hk.out hk.out.lt
  (refine wp_region_bel W.heap.size W (Below.refl _ _) (by kernel_rfl) (by kernel_rfl) ?_; (repeat (go_big_quiet_step ((first | (go_at_call 79; exact bel_of (Nat.le_refl _) (even_any h _ h0 h1)))))); refine wpQuiet_nil ?_; rintro w1 ⟨⟨_, hb1⟩, rfl⟩)
  clear hc
  have k1 := Lib.hid (hk.out.below hb1 hk.out.lt)
  have b1 := Lib.hid (below_more hb0.out hb1 (Nat.le_refl _))
  clear hk hb0 hb1
  have hc := k1.out.cell
  obtain ⟨e, he⟩ : ∃ e, e = evenL h := ⟨_, rfl⟩
  rw [← he] at ev ⊢
  have HE := Lib.hid he
  clear he
  go_wp2
  go_loop [8, 15] (fun x i => ∃ k : Nat, k ≤ n ∧ x = .int .i64 (aft m e t k) ∧ i = .int .i64 k) (fun _ i => n - (intOf i).toNat)
  case atStart => exact ⟨0, Nat.zero_le _, rfl, rfl⟩
  case round =>
    obtain ⟨k, hk, rfl, rfl⟩ := hrel
    have ab := aft_bd m0 m1 ev.1 ev.2 t0 t1 k
    have cb := chg_bd ab.1 ab.2 ev.1 ev.2 t0 t1
    by_cases hlt : k < n
    · by_cases hc0 : chgL (aft m e t k) e t = 0
      · have HS : Hid (aft m e t k = aft m e t n) := Lib.hid (by have := aft_stop hc0 (n - k); rw [show k + (n - k) = n by omega] at this; exact this.symm)
        have q : (chgL (aft m e t k) e t == 0) = true := by simpa using hc0
        clear hc0
        go_wp2_with ((go_at_call 80; refine (change_any _ _ _ _ ab.1 ab.2 ev.1 ev.2 t0 t1).mono ?_; rintro e w' ⟨rfl, rfl⟩))
        go_ret
        exact ⟨ret_int (by rw [← HE.out]; exact HS.out), b1.out⟩
      · have q : (chgL (aft m e t k) e t == 0) = false := by simpa using hc0
        clear hc0
        go_wp2_with ((go_at_call 80; refine (change_any _ _ _ _ ab.1 ab.2 ev.1 ev.2 t0 t1).mono ?_; rintro e w' ⟨rfl, rfl⟩))
        go_round
        case rel => exact ⟨k + 1, by omega, by rw [aft], by go_num⟩
        case measure => simp [intOf]; omega
    · obtain rfl : k = n := by omega
      go_wp2
      go_ret
      exact ⟨ret_int (by rw [← HE.out]), b1.out⟩
def tdP (m h g : Int) (n : Nat) (k : Int) : Bool := decide (aft m (evenL h) (1000 - k) n ≤ g)
def tdR : Option Int → Int × Int
  | some k => (1000 - k, 0)
  | none => (0, 3)
def tdN : Nat := 991
def tdL (m h g d : Int) : Int × Int := if (inB m 0 1000 && (inB h 0 1000 && (inB g 0 1000 && inB d 0 4000))) = true then tdR (firstN (tdP m h g d.toNat) 0 tdN) else (0, 2)
theorem td_t {p : Int → Bool} {k m : Nat} (hk : k < m) (h : p k = true) (hf : firstN p 0 m = firstN p k (m - k)) : tdR (firstN p 0 m) = (1000 - (k : Int), 0) := by rw [hf, firstN_t hk h]; rfl
theorem td_f {p : Int → Bool} {k m : Nat} (hk : k < m) (h : p k = false) (hf : firstN p 0 m = firstN p k (m - k)) : firstN p 0 m = firstN p (k + 1) (m - (k + 1)) := by rw [hf, firstN_f hk h]
theorem td_n {p : Int → Bool} {k m : Nat} (hk : ¬ k < m) (hf : firstN p 0 m = firstN p k (m - k)) : tdR (firstN p 0 m) = (0, 3) := by rw [hf, show m - k = 0 by omega]; rfl
theorem ret_td {r : Int × Int} {b c : Int} (h : r = (b, c)) : Ending.returned (.tuple #[.int .i64 b, .int .i64 c]) = .returned (.tuple #[.int .i64 r.1, .int .i64 r.2]) := by rw [h]
set_option maxHeartbeats 2000000 in
theorem ThickToDry_i (m h g d : Int) (w : World) :
    Calls Try.prog 27 #[.int .i64 m, .int .i64 h, .int .i64 g, .int .i64 d] w fun e w' => e = .returned (.tuple #[.int .i64 (tdL m h g d).1, .int .i64 (tdL m h g d).2]) ∧ Below w.heap.size w w' := by
  cases g0 : inB m 0 1000
  · rw [show tdL m h g d = (0, 2) by simp [tdL, g0]]
    go_enter Try.func27, Try.ntmps27
    go_wp2_with (first | (go_at_call 62; refine (isPart_any _ _).mono ?_; rintro e w' ⟨rfl, rfl⟩) | (go_at_call 63; refine (isDry_any _ _).mono ?_; rintro e w' ⟨rfl, rfl⟩))
    go_ret2
    exact ⟨rfl, Below.refl _ _⟩
  cases g1 : inB h 0 1000
  · rw [show tdL m h g d = (0, 2) by simp [tdL, g1]]
    go_enter Try.func27, Try.ntmps27
    go_wp2_with (first | (go_at_call 62; refine (isPart_any _ _).mono ?_; rintro e w' ⟨rfl, rfl⟩) | (go_at_call 63; refine (isDry_any _ _).mono ?_; rintro e w' ⟨rfl, rfl⟩))
    go_ret2
    exact ⟨rfl, Below.refl _ _⟩
  cases g2 : inB g 0 1000
  · rw [show tdL m h g d = (0, 2) by simp [tdL, g2]]
    go_enter Try.func27, Try.ntmps27
    go_wp2_with (first | (go_at_call 62; refine (isPart_any _ _).mono ?_; rintro e w' ⟨rfl, rfl⟩) | (go_at_call 63; refine (isDry_any _ _).mono ?_; rintro e w' ⟨rfl, rfl⟩))
    go_ret2
    exact ⟨rfl, Below.refl _ _⟩
  cases g3 : inB d 0 4000
  · rw [show tdL m h g d = (0, 2) by simp [tdL, g3]]
    go_enter Try.func27, Try.ntmps27
    go_wp2_with (first | (go_at_call 62; refine (isPart_any _ _).mono ?_; rintro e w' ⟨rfl, rfl⟩) | (go_at_call 63; refine (isDry_any _ _).mono ?_; rintro e w' ⟨rfl, rfl⟩))
    go_ret2
    exact ⟨rfl, Below.refl _ _⟩
  have q0 := inB_t g0
  have q1 := inB_t g1
  have q2 := inB_t g2
  have q3 := inB_t g3
  have ev := even_in h
  rw [show tdL m h g d = tdR (firstN (tdP m h g d.toNat) 0 tdN) by simp [tdL, g0, g1, g2, g3]]
  obtain ⟨N, hN⟩ : ∃ N : Nat, N = tdN := ⟨_, rfl⟩
  rw [← hN]
  have n1 : N ≤ 991 := by rw [hN, tdN]; omega
  have n2 : 991 ≤ N := by rw [hN, tdN]; omega
  clear hN
  obtain ⟨n, rfl⟩ : ∃ n : Nat, d = n := ⟨d.toNat, by omega⟩
  rw [Int.toNat_natCast]
  go_enter Try.func27, Try.ntmps27
  go_wp2_with (first | (go_at_call 62; refine (isPart_any _ _).mono ?_; rintro e w' ⟨rfl, rfl⟩) | (go_at_call 63; refine (isDry_any _ _).mono ?_; rintro e w' ⟨rfl, rfl⟩))
  clear g0 g1 g2 g3
  go_loopw [10] (fun x wr => ∃ k : Nat, k ≤ N ∧ x = .int .i64 (1000 - (k : Int)) ∧ Hid (firstN (tdP m h g n) 0 N = firstN (tdP m h g n) k (N - k)) ∧ Hid (Below w.heap.size w wr)) (fun x _ => (intOf x).toNat)
  case atStart => exact ⟨0, by omega, by simp, Lib.hid (by rw [Nat.sub_zero]), Lib.hid (Below.refl _ _)⟩
  case round =>
    obtain ⟨k, hk, rfl, hf, hb⟩ := hrel
    by_cases hlt : k < N
    · obtain ⟨t, ht⟩ : ∃ t : Int, t = 1000 - (k : Int) := ⟨_, rfl⟩
      rw [← ht]
      have t0 : 10 ≤ t := by omega
      have t1 : t ≤ 1000 := by omega
      by_cases hp : aft m (evenL h) t n ≤ g
      · have HF := Lib.hid (td_t hlt (show tdP m h g n k = true by simpa [tdP, ← ht] using hp) hf.out)
        rw [← ht] at HF
        clear ht
        go_wp2_with fail
        refine (after_any m t h n _ q0.1 q0.2 t0 t1 q1.1 q1.2 (by omega)).mono ?_
        rintro r w1 ⟨rfl, hb1⟩
        have b1 := Lib.hid (below_more hb.out hb1 (Nat.le_refl _))
        clear hb1
        go_wp2
        go_ret2
        exact ⟨ret_td HF.out, b1.out⟩
      · have HF := Lib.hid (td_f hlt (show tdP m h g n k = false by simpa [tdP, ← ht] using hp) hf.out)
        have HT := Lib.hid ht
        clear ht
        go_wp2_with fail
        refine (after_any m t h n _ q0.1 q0.2 t0 t1 q1.1 q1.2 (by omega)).mono ?_
        rintro r w1 ⟨rfl, hb1⟩
        have b1 := Lib.hid (below_more hb.out hb1 (Nat.le_refl _))
        clear hb1
        go_wp2
        go_roundw
        case rel => exact ⟨k + 1, by omega, by rw [show (1000 : Int) - ((k + 1 : Nat) : Int) = t - 1 by have := HT.out; omega], HF, b1⟩
        case measure => simp [intOf]; have := HT.out; omega
    · have HF := Lib.hid (td_n hlt hf.out)
      go_wp2
      go_ret2
      exact ⟨ret_td HF.out, hb.out⟩
set_option maxHeartbeats 2000000 in
theorem ThickToDry_s (m h g d : Int) (w : World) :
    Calls Try.prog 26 #[.int .i64 m, .int .i64 h, .int .i64 g, .int .i64 d] w fun e w' => e = .returned (.tuple #[.int .i64 (tdL m h g d).1, .int .i64 (tdL m h g d).2]) ∧ Below w.heap.size w w' := by
  cases g0 : inB m 0 1000
  · rw [show tdL m h g d = (0, 2) by simp [tdL, g0]]
    go_enter Try.func26, Try.ntmps26
    go_wp2_with (first | (go_at_call 58; refine (l04Share_any _ _).mono ?_; rintro e w' ⟨rfl, rfl⟩) | (go_at_call 59; refine (l04Days_any _ _).mono ?_; rintro e w' ⟨rfl, rfl⟩))
    go_ret2
    exact ⟨rfl, Below.refl _ _⟩
  cases g1 : inB h 0 1000
  · rw [show tdL m h g d = (0, 2) by simp [tdL, g1]]
    go_enter Try.func26, Try.ntmps26
    go_wp2_with (first | (go_at_call 58; refine (l04Share_any _ _).mono ?_; rintro e w' ⟨rfl, rfl⟩) | (go_at_call 59; refine (l04Days_any _ _).mono ?_; rintro e w' ⟨rfl, rfl⟩))
    go_ret2
    exact ⟨rfl, Below.refl _ _⟩
  cases g2 : inB g 0 1000
  · rw [show tdL m h g d = (0, 2) by simp [tdL, g2]]
    go_enter Try.func26, Try.ntmps26
    go_wp2_with (first | (go_at_call 58; refine (l04Share_any _ _).mono ?_; rintro e w' ⟨rfl, rfl⟩) | (go_at_call 59; refine (l04Days_any _ _).mono ?_; rintro e w' ⟨rfl, rfl⟩))
    go_ret2
    exact ⟨rfl, Below.refl _ _⟩
  cases g3 : inB d 0 4000
  · rw [show tdL m h g d = (0, 2) by simp [tdL, g3]]
    go_enter Try.func26, Try.ntmps26
    go_wp2_with (first | (go_at_call 58; refine (l04Share_any _ _).mono ?_; rintro e w' ⟨rfl, rfl⟩) | (go_at_call 59; refine (l04Days_any _ _).mono ?_; rintro e w' ⟨rfl, rfl⟩))
    go_ret2
    exact ⟨rfl, Below.refl _ _⟩
  have q0 := inB_t g0
  have q1 := inB_t g1
  have q2 := inB_t g2
  have q3 := inB_t g3
  have ev := even_in h
  rw [show tdL m h g d = tdR (firstN (tdP m h g d.toNat) 0 tdN) by simp [tdL, g0, g1, g2, g3]]
  obtain ⟨N, hN⟩ : ∃ N : Nat, N = tdN := ⟨_, rfl⟩
  rw [← hN]
  have n1 : N ≤ 991 := by rw [hN, tdN]; omega
  have n2 : 991 ≤ N := by rw [hN, tdN]; omega
  clear hN
  obtain ⟨n, rfl⟩ : ∃ n : Nat, d = n := ⟨d.toNat, by omega⟩
  rw [Int.toNat_natCast]
  go_enter Try.func26, Try.ntmps26
  go_wp2_with (first | (go_at_call 58; refine (l04Share_any _ _).mono ?_; rintro e w' ⟨rfl, rfl⟩) | (go_at_call 59; refine (l04Days_any _ _).mono ?_; rintro e w' ⟨rfl, rfl⟩))
  clear g0 g1 g2 g3
  go_loopw [10] (fun x wr => ∃ k : Nat, k ≤ N ∧ x = .int .i64 (1000 - (k : Int)) ∧ Hid (firstN (tdP m h g n) 0 N = firstN (tdP m h g n) k (N - k)) ∧ Hid (Below w.heap.size w wr)) (fun x _ => (intOf x).toNat)
  case atStart => exact ⟨0, by omega, by simp, Lib.hid (by rw [Nat.sub_zero]), Lib.hid (Below.refl _ _)⟩
  case round =>
    obtain ⟨k, hk, rfl, hf, hb⟩ := hrel
    by_cases hlt : k < N
    · obtain ⟨t, ht⟩ : ∃ t : Int, t = 1000 - (k : Int) := ⟨_, rfl⟩
      rw [← ht]
      have t0 : 10 ≤ t := by omega
      have t1 : t ≤ 1000 := by omega
      by_cases hp : aft m (evenL h) t n ≤ g
      · have HF := Lib.hid (td_t hlt (show tdP m h g n k = true by simpa [tdP, ← ht] using hp) hf.out)
        rw [← ht] at HF
        clear ht
        go_wp2_with fail
        refine (l04Even_any h _ q1.1 q1.2).mono ?_
        rintro r w1 ⟨rfl, hb1⟩
        have b1 := Lib.hid (below_more hb.out hb1 (Nat.le_refl _))
        go_wp2_with ((go_at_call 60; refine (l04After_any m (evenL h) t n _ q0.1 q0.2 ev.1 ev.2 t0 t1 (by omega)).mono ?_; rintro e w' ⟨rfl, rfl⟩))
        clear hb1
        go_wp2
        go_ret2
        exact ⟨ret_td HF.out, b1.out⟩
      · have HF := Lib.hid (td_f hlt (show tdP m h g n k = false by simpa [tdP, ← ht] using hp) hf.out)
        have HT := Lib.hid ht
        clear ht
        go_wp2_with fail
        refine (l04Even_any h _ q1.1 q1.2).mono ?_
        rintro r w1 ⟨rfl, hb1⟩
        have b1 := Lib.hid (below_more hb.out hb1 (Nat.le_refl _))
        go_wp2_with ((go_at_call 60; refine (l04After_any m (evenL h) t n _ q0.1 q0.2 ev.1 ev.2 t0 t1 (by omega)).mono ?_; rintro e w' ⟨rfl, rfl⟩))
        clear hb1
        go_wp2
        go_roundw
        case rel => exact ⟨k + 1, by omega, by rw [show (1000 : Int) - ((k + 1 : Nat) : Int) = t - 1 by have := HT.out; omega], HF, b1⟩
        case measure => simp [intOf]; have := HT.out; omega
    · have HF := Lib.hid (td_n hlt hf.out)
      go_wp2
      go_ret2
      exact ⟨ret_td HF.out, hb.out⟩
end Go.Proofs.Ythmpcpcmmahheaa
