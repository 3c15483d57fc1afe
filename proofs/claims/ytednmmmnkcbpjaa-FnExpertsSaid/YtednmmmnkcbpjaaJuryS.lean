/- The best jury: BestJury of the reference. -/
import Derived.Test.YtednmmmnkcbpjaaJuryFns
set_option linter.unusedVariables false
namespace Go.Proofs.Ytednmmmnkcbpjaa
open Go.RowKit

theorem bS_step {zs : List Int} {n size P s s' : Nat} {x : JSt} (hP : 2 ^ n = P) (h : s ≤ P - 1) (hs : s = s' + 1) : bS zs n size x (P - 1 - s') = stS zs size (bS zs n size x (P - 1 - s)) (mems (bitS n s) n) := by
  rw [show P - 1 - s' = (P - 1 - s) + 1 by omega, bS, hP, show P - 1 - (P - 1 - s) = s by omega]
end Go.Proofs.Ytednmmmnkcbpjaa
