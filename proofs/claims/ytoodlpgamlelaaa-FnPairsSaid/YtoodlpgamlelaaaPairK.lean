/- Pairs of planks: the program's search. -/
import Derived.Test.YtoodlpgamlelaaaPairS
set_option linter.unusedVariables false
namespace Go.Proofs.Ytoodlpgamlelaaa
open Go.RowKit

theorem psearch_any (ds : List PlankD) (g gu L B : Nat) (LA : Option Addr) (n lc uc : Nat) (n16 : n ≤ 16) (hds : ds.length = n) (hpl : ∀ x ∈ ds, plankR x) : ∀ (d : Nat) (w : World) (us : List Bool) (prs : List (Nat × Nat)) (sum : Int) (st : PSt) (v1 v3 : Value), PairH ds g gu L B LA n lc uc d w us prs sum st v1 v3 →
    Calls Try.prog 21 #[.pointer (some ⟨g, 0, none⟩)] w (PairE g gu L LA n lc uc w us prs sum v1 (psrch (gpL ds) d us prs sum st))
  | 0, w, us, prs, sum, st, v1, v3, h => psearch_z ds g gu L B LA n lc uc n16 w us prs sum st v1 v3 h
  | d + 1, w, us, prs, sum, st, v1, v3, h => psearch_s ds g gu L B LA n lc uc n16 hds hpl d (psearch_any ds g gu L B LA n lc uc n16 hds hpl d) w us prs sum st v1 v3 h
end Go.Proofs.Ytoodlpgamlelaaa
