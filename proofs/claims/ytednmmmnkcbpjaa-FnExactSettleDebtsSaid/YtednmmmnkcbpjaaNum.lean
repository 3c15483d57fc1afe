/- Contracts of small functions on numbers. -/
import Derived.Test.YtednmmmnkcbpjaaBase
set_option linter.unusedVariables false
namespace Go.Proofs.Ytednmmmnkcbpjaa
open Go.RowKit


def getsL (p s l : Int) : Int := max 0 (p - max l ((s * p + 999) / 1000))
theorem mul_bd {a b A B : Int} (a0 : 0 ≤ a) (a1 : a ≤ A) (b0 : 0 ≤ b) (b1 : b ≤ B) : 0 ≤ a * b ∧ a * b ≤ A * B :=
  ⟨Int.mul_nonneg a0 b0, Int.mul_le_mul a1 b1 b0 (by omega)⟩
end Go.Proofs.Ytednmmmnkcbpjaa
