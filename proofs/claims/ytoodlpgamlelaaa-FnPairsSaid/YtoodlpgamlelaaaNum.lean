/- Contracts of small functions on numbers. -/
import Derived.Test.YtoodlpgamlelaaaBase
set_option linter.unusedVariables false
namespace Go.Proofs.Ytoodlpgamlelaaa
open Go.RowKit


theorem l00Max_any (a b : Int) (w : World) :
    Calls Try.prog 55 #[.int .i64 a, .int .i64 b] w fun e w' => e = .returned (.int .i64 (max a b)) ∧ w = w' := by
  by_cases h : b < a
  · go_enter Try.func55, Try.ntmps55
    go_wp2
    go_ret
    exact ⟨ret_int (by omega), rfl⟩
  · go_enter Try.func55, Try.ntmps55
    go_wp2
    go_ret
    exact ⟨ret_int (by omega), rfl⟩
def getsL (p s l : Int) : Int := max 0 (p - max l ((s * p + 999) / 1000))
theorem mul_bd {a b A B : Int} (a0 : 0 ≤ a) (a1 : a ≤ A) (b0 : 0 ≤ b) (b1 : b ≤ B) : 0 ≤ a * b ∧ a * b ≤ A * B :=
  ⟨Int.mul_nonneg a0 b0, Int.mul_le_mul a1 b1 b0 (by omega)⟩
end Go.Proofs.Ytoodlpgamlelaaa
