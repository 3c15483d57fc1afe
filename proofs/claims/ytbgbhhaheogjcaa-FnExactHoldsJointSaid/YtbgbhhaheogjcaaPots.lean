/- Pots of glue: how strong, whether a joint holds. -/
import Derived.Test.YtbgbhhaheogjcaaStructs
import Derived.Test.YtbgbhhaheogjcaaDiv
set_option linter.unusedVariables false
namespace Go.Proofs.Ytbgbhhaheogjcaa
open Go.RowKit

def rawL (d wa he ho : Int) : Int := divL (1000 * d) (d + wa) - 2 * ho - 10 * max 0 (he - 70)
def strongL (d wa he ho : Int) : Int := max 0 (rawL d wa he ho)
theorem dry_bd {d wa : Int} (h1 : inB d 1 10000 = true) (h2 : inB wa 1 10000 = true) : 0 ≤ divL (1000 * d) (d + wa) ∧ divL (1000 * d) (d + wa) ≤ 1000 := by
  have a := inB_t h1
  have b := inB_t h2
  have e : divL (1000 * d) (d + wa) = (2 * (1000 * d) + (d + wa)) / (2 * (d + wa)) := by unfold divL; rw [if_neg (by omega)]
  rw [e]
  refine ⟨Int.ediv_nonneg (by omega) (by omega), ?_⟩
  have : (2 * (1000 * d) + (d + wa)) / (2 * (d + wa)) < 1001 := (Int.ediv_lt_iff_lt_mul (by omega)).2 (by omega)
  omega
theorem strong_bd {d wa he ho : Int} (h1 : inB d 1 10000 = true) (h2 : inB wa 1 10000 = true) (h3 : inB he 20 95 = true) (h4 : inB ho 0 1000 = true) : 0 ≤ strongL d wa he ho ∧ strongL d wa he ho ≤ 1000 := by
  have a := dry_bd h1 h2
  have b := inB_t h3
  have c := inB_t h4
  unfold strongL rawL
  omega
set_option maxHeartbeats 1000000 in
theorem strength_i (s0 : ByteArray) (a1 a2 a3 a4 : Int) (w : World) (h1 : inB a1 1 10000 = true) (h2 : inB a2 1 10000 = true) (h3 : inB a3 20 95 = true) (h4 : inB a4 0 1000 = true) :
    Calls Try.prog 80 #[potV s0 a1 a2 a3 a4] w fun e w' => e = .returned (.int .i64 (strongL a1 a2 a3 a4)) ∧ Below w.heap.size w w' := by
  have d := dry_bd h1 h2
  have a := inB_t h1
  have b := inB_t h2
  have c := inB_t h3
  have f := inB_t h4
  clear h1 h2 h3 h4
  have hk := Lib.hid (Blk.new w 41 #[.string s0, .int .i64 a1, .int .i64 a2, .int .i64 a3, .int .i64 a4])
  have hb0 := Lib.hid ((Below.refl w.heap.size w).alloc (Nat.le_refl _) (.cells #[.string s0, .int .i64 a1, .int .i64 a2, .int .i64 a3, .int .i64 a4] 41))
  unfold strongL rawL
  by_cases h : 0 < a3 - 70
  · rw [show max 0 (a3 - 70) = a3 - 70 by omega]
    go_enter Try.func80, Try.ntmps80
    go_wp2_with fail
    generalize w.alloc (.cells #[.string s0, .int .i64 a1, .int .i64 a2, .int .i64 a3, .int .i64 a4] 41) = W at hk hb0 ⊢
    have hc := bel_cell hk.out hk.out.lt
    (refine wp_region_bel W.heap.size W (Below.refl _ _) (by kernel_rfl) (by kernel_rfl) ?_; (repeat (go_big_quiet_step ((first | (go_at_call 117; exact bel_same (divRound_any _ _ _ (by omega) (by omega))))))); refine wpQuiet_nil ?_; rintro w1 ⟨⟨_, hb1⟩, rfl⟩)
    clear hc
    go_wp2
    all_goals
      go_ret
      exact ⟨ret_int (by omega), below_more hb0.out hb1 (Nat.le_refl _)⟩
  · rw [show max 0 (a3 - 70) = 0 by omega]
    go_enter Try.func80, Try.ntmps80
    go_wp2_with fail
    generalize w.alloc (.cells #[.string s0, .int .i64 a1, .int .i64 a2, .int .i64 a3, .int .i64 a4] 41) = W at hk hb0 ⊢
    have hc := bel_cell hk.out hk.out.lt
    (refine wp_region_bel W.heap.size W (Below.refl _ _) (by kernel_rfl) (by kernel_rfl) ?_; (repeat (go_big_quiet_step ((first | (go_at_call 117; exact bel_same (divRound_any _ _ _ (by omega) (by omega))))))); refine wpQuiet_nil ?_; rintro w1 ⟨⟨_, hb1⟩, rfl⟩)
    clear hc
    go_wp2
    all_goals
      go_ret
      exact ⟨ret_int (by omega), below_more hb0.out hb1 (Nat.le_refl _)⟩
set_option maxHeartbeats 1000000 in
theorem strength_s (s0 : ByteArray) (a1 a2 a3 a4 : Int) (N : Nat) (w : World) (h1 : inB a1 1 10000 = true) (h2 : inB a2 1 10000 = true) (h3 : inB a3 20 95 = true) (h4 : inB a4 0 1000 = true) (hk : Blk w N 41 #[.string s0, .int .i64 a1, .int .i64 a2, .int .i64 a3, .int .i64 a4]) :
    Calls Try.prog 78 #[.pointer (some ⟨N, 0, none⟩)] w fun e w' => e = .returned (.int .i64 (strongL a1 a2 a3 a4)) ∧ Below w.heap.size w w' := by
  have d := dry_bd h1 h2
  have a := inB_t h1
  have b := inB_t h2
  have c := inB_t h3
  have f := inB_t h4
  clear h1 h2 h3 h4
  unfold strongL rawL
  have hc := bel_cell hk hk.lt
  go_enter Try.func78, Try.ntmps78
  go_wp2_with fail
  (refine wp_region_bel w.heap.size w (Below.refl _ _) (by kernel_rfl) (by kernel_rfl) ?_; (repeat (go_big_quiet_step ((first | (go_at_call 83; exact bel_same (l00Max_any _ _ _)) | (go_at_call 115; exact bel_same (l01Div_any _ _ _ (by omega) (by omega))))))); refine wpQuiet_nil ?_; rintro w1 ⟨⟨_, hb1⟩, rfl⟩)
  clear hc
  go_wp2
  go_ret
  exact ⟨rfl, hb1⟩
def soL (s0 : ByteArray) (a1 a2 a3 a4 : Int) : Int × Int := if potB s0 a1 a2 a3 a4 = true then (strongL a1 a2 a3 a4, 0) else (0, 1)
set_option maxHeartbeats 2000000 in
theorem StrengthOf_i (s0 : ByteArray) (a1 a2 a3 a4 : Int) (w : World) (z0 : s0.size ≤ maxLen) :
    Calls Try.prog 28 #[potV s0 a1 a2 a3 a4] w fun e w' => e = .returned (.tuple #[.int .i64 (soL s0 a1 a2 a3 a4).1, .int .i64 (soL s0 a1 a2 a3 a4).2]) ∧ Below w.heap.size w w' := by
  have hk := Lib.hid (Blk.new w 41 #[.string s0, .int .i64 a1, .int .i64 a2, .int .i64 a3, .int .i64 a4])
  have hb0 := Lib.hid ((Below.refl w.heap.size w).alloc (Nat.le_refl _) (.cells #[.string s0, .int .i64 a1, .int .i64 a2, .int .i64 a3, .int .i64 a4] 41))
  cases h : potB s0 a1 a2 a3 a4
  · simp only [soL, h]
    go_enter Try.func28, Try.ntmps28
    go_wp2_with fail
    refine (potvalid_is h _ z0).mono ?_
    rintro r w1 ⟨rfl, hb1⟩
    go_wp2
    go_ret2
    exact ⟨rfl, below_more hb0.out hb1 (Nat.le_refl _)⟩
  · have q := potB_t h
    rw [show soL s0 a1 a2 a3 a4 = (strongL a1 a2 a3 a4, 0) by simp [soL, h]]
    go_enter Try.func28, Try.ntmps28
    go_wp2_with fail
    refine (potvalid_is h _ z0).mono ?_
    rintro r w1 ⟨rfl, hb1⟩
    have k1 := Lib.hid (hk.out.below hb1 hk.out.lt)
    have b1 := Lib.hid (below_more hb0.out hb1 (Nat.le_refl _))
    clear hk hb0 hb1
    have hc := k1.out.cell
    go_wp2_with fail
    refine (strength_i _ _ _ _ _ _ q.2.1 q.2.2.1 q.2.2.2.1 q.2.2.2.2).mono ?_
    rintro r w2 ⟨rfl, hb2⟩
    go_wp2
    go_ret2
    exact ⟨rfl, below_more b1.out hb2 (Nat.le_refl _)⟩
set_option maxHeartbeats 2000000 in
theorem StrengthOf_s (s0 : ByteArray) (a1 a2 a3 a4 : Int) (w : World) (z0 : s0.size ≤ maxLen) :
    Calls Try.prog 26 #[potV s0 a1 a2 a3 a4] w fun e w' => e = .returned (.tuple #[.int .i64 (soL s0 a1 a2 a3 a4).1, .int .i64 (soL s0 a1 a2 a3 a4).2]) ∧ Below w.heap.size w w' := by
  have hk := Lib.hid (Blk.new w 41 #[.string s0, .int .i64 a1, .int .i64 a2, .int .i64 a3, .int .i64 a4])
  have hb0 := Lib.hid ((Below.refl w.heap.size w).alloc (Nat.le_refl _) (.cells #[.string s0, .int .i64 a1, .int .i64 a2, .int .i64 a3, .int .i64 a4] 41))
  cases h : potB s0 a1 a2 a3 a4
  · simp only [soL, h]
    go_enter Try.func26, Try.ntmps26
    go_wp2_with fail
    refine (potone_is h _ z0 hk.out).mono ?_
    rintro r w' ⟨rfl, rfl⟩
    go_wp2
    go_ret2
    exact ⟨rfl, hb0.out⟩
  · have q := potB_t h
    rw [show soL s0 a1 a2 a3 a4 = (strongL a1 a2 a3 a4, 0) by simp [soL, h]]
    go_enter Try.func26, Try.ntmps26
    go_wp2_with fail
    refine (potone_is h _ z0 hk.out).mono ?_
    rintro r w' ⟨rfl, rfl⟩
    go_wp2_with fail
    refine (strength_s _ _ _ _ _ _ _ q.2.1 q.2.2.1 q.2.2.2.1 q.2.2.2.2 hk.out).mono ?_
    rintro r w2 ⟨rfl, hb2⟩
    go_wp2
    go_ret2
    exact ⟨rfl, below_more hb0.out hb2 (Nat.le_refl _)⟩
end Go.Proofs.Ytbgbhhaheogjcaa
