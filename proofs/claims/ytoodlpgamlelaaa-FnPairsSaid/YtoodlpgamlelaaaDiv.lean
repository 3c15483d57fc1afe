/- The nearest quotient: divRound and the reference's l01Div. -/
import Derived.Test.YtoodlpgamlelaaaNum
set_option linter.unusedVariables false
namespace Go.Proofs.Ytoodlpgamlelaaa
open Go.RowKit

theorem ediv_is {a b q : Int} (hb : 0 < b) (h1 : b * q ≤ a) (h2 : a < b * q + b) : a / b = q := by
  have e1 : q ≤ a / b := (Int.le_ediv_iff_mul_le hb).2 (by rw [Int.mul_comm]; exact h1)
  have e2 : a / b < q + 1 := (Int.ediv_lt_iff_lt_mul hb).2 (by rw [Int.mul_comm, Int.mul_add, Int.mul_one]; exact h2)
  omega
/-- the nearest integer to a / b, halves away from 0, for b > 0 -/
def divL (a b : Int) : Int := if a < 0 then -((b - 2 * a) / (2 * b)) else (2 * a + b) / (2 * b)
theorem near_up {x b : Int} (hb : 0 < b) (h : b - x % b ≤ x % b) : x / b + 1 = (2 * x + b) / (2 * b) := by
  have e := Int.mul_ediv_add_emod x b
  have l := Int.emod_lt_of_pos x hb
  symm
  refine ediv_is (by omega) ?_ ?_
  · rw [show 2 * b * (x / b + 1) = 2 * (b * (x / b)) + 2 * b by rw [Int.mul_add, Int.mul_one, Int.mul_assoc]]; omega
  · rw [show 2 * b * (x / b + 1) = 2 * (b * (x / b)) + 2 * b by rw [Int.mul_add, Int.mul_one, Int.mul_assoc]]; omega
theorem near_down {x b : Int} (hb : 0 < b) (h : ¬ b - x % b ≤ x % b) : x / b = (2 * x + b) / (2 * b) := by
  have e := Int.mul_ediv_add_emod x b
  have l := Int.emod_nonneg x (show b ≠ 0 by omega)
  symm
  refine ediv_is (by omega) ?_ ?_
  · rw [show 2 * b * (x / b) = 2 * (b * (x / b)) by rw [Int.mul_assoc]]; omega
  · rw [show 2 * b * (x / b) = 2 * (b * (x / b)) by rw [Int.mul_assoc]]; omega
set_option maxHeartbeats 1000000 in
theorem divRound_any (a b : Int) (w : World) (ha : -1000000000000000000 ≤ a ∧ a ≤ 1000000000000000000) (hb : 1 ≤ b ∧ b ≤ 1000000000000000) :
    Calls Try.prog 56 #[.int .i64 a, .int .i64 b] w fun e w' => e = .returned (.int .i64 (divL a b)) ∧ w = w' := by
  have hz : (b == 0) = false := by simp; omega
  have hbb : ¬ b < 0 := by omega
  by_cases h : a < 0
  · obtain ⟨x, rfl⟩ : ∃ x, a = -x := ⟨-a, by omega⟩
    have hq : 0 ≤ x / b ∧ x / b ≤ 1000000000000000000 := ⟨Int.ediv_nonneg (by omega) (by omega), Int.le_trans (Int.ediv_le_self _ (by omega)) (by omega)⟩
    have hr := Int.emod_nonneg x (show b ≠ 0 by omega)
    have hl := Int.emod_lt_of_pos x (show 0 < b by omega)
    have hd : divL (-x) b = -((2 * x + b) / (2 * b)) := by unfold divL; rw [if_pos h, show b - 2 * -x = 2 * x + b by omega]
    rw [hd]
    clear hd
    by_cases g : b - x % b ≤ x % b
    · rw [← near_up (by omega) g]
      go_enter Try.func56, Try.ntmps56
      go_wp2
      go_ret
      exact ⟨rfl, rfl⟩
    · rw [← near_down (by omega) g]
      go_enter Try.func56, Try.ntmps56
      go_wp2
      go_ret
      exact ⟨rfl, rfl⟩
  · have hq : 0 ≤ a / b ∧ a / b ≤ 1000000000000000000 := ⟨Int.ediv_nonneg (by omega) (by omega), Int.le_trans (Int.ediv_le_self _ (by omega)) (by omega)⟩
    have hr := Int.emod_nonneg a (show b ≠ 0 by omega)
    have hl := Int.emod_lt_of_pos a (show 0 < b by omega)
    have hd : divL a b = (2 * a + b) / (2 * b) := by unfold divL; rw [if_neg h]
    rw [hd]
    clear hd
    by_cases g : b - a % b ≤ a % b
    · rw [← near_up (by omega) g]
      by_cases h0 : a = 0
      · subst h0
        exfalso
        simp at g
        omega
      go_enter Try.func56, Try.ntmps56
      go_wp2
      go_ret
      exact ⟨rfl, rfl⟩
    · rw [← near_down (by omega) g]
      by_cases h0 : a = 0
      · subst h0
        go_enter Try.func56, Try.ntmps56
        go_wp2
        go_ret
        exact ⟨rfl, rfl⟩
      go_enter Try.func56, Try.ntmps56
      go_wp2
      go_ret
      exact ⟨rfl, rfl⟩
set_option maxHeartbeats 1000000 in
theorem l01Div_any (a b : Int) (w : World) (ha : -1000000000000000000 ≤ a ∧ a ≤ 1000000000000000000) (hb : 1 ≤ b ∧ b ≤ 1000000000000000) :
    Calls Try.prog 47 #[.int .i64 a, .int .i64 b] w fun e w' => e = .returned (.int .i64 (divL a b)) ∧ w = w' := by
  have hz : (2 * b == 0) = false := by simp; omega
  have hbb : ¬ b < 0 := by omega
  by_cases h : a < 0
  · have hd : divL a b = -((b - 2 * a) / (2 * b)) := by unfold divL; rw [if_pos h]
    have hq : 0 ≤ (b - 2 * a) / (2 * b) ∧ (b - 2 * a) / (2 * b) ≤ 3000000000000000000 := ⟨Int.ediv_nonneg (by omega) (by omega), Int.le_trans (Int.ediv_le_self _ (by omega)) (by omega)⟩
    rw [hd]
    clear hd
    go_enter Try.func47, Try.ntmps47
    go_wp2
    go_ret
    exact ⟨rfl, rfl⟩
  · have hd : divL a b = (2 * a + b) / (2 * b) := by unfold divL; rw [if_neg h]
    have hq : 0 ≤ (2 * a + b) / (2 * b) ∧ (2 * a + b) / (2 * b) ≤ 3000000000000000000 := ⟨Int.ediv_nonneg (by omega) (by omega), Int.le_trans (Int.ediv_le_self _ (by omega)) (by omega)⟩
    rw [hd]
    clear hd
    go_enter Try.func47, Try.ntmps47
    go_wp2
    go_ret
    exact ⟨rfl, rfl⟩
end Go.Proofs.Ytoodlpgamlelaaa
