/- Set-ups of strings: the program's search, whole. -/
import Derived.Test.YtemkggecempmgaaSearchJ
set_option linter.unusedVariables false
namespace Go.Proofs.Ytemkggecempmgaa
open Go.RowKit

theorem search_any (cs : List CordD) (gs : List (List Int)) (g : Nat) (LA GA : Option Addr) (n lc gc : Nat) (most share : Int) (n4 : n ≤ 4) (hcs : cs.length = n) (cok : ∀ x ∈ cs, cordOk x.a0 x.a1 x.a2 x.a3) (gok : ∀ r ∈ gs, r.length ≤ 6 ∧ ∀ z ∈ r, 1 ≤ z ∧ z ≤ 10000) (m0 : 0 ≤ most) (m1 : most ≤ 2000000) (s0 : 0 ≤ share) (s1 : share ≤ 1000) :
    ∀ (d : Nat) (w : World) (given tens : List Int) (sum : Int) (st : SSt) (v1 v2 v3 : Value), SrchH cs gs g LA GA n lc gc most share d w given tens sum st v1 v2 v3 →
      Calls Try.prog 82 #[.pointer (some ⟨g, 0, none⟩)] w (SrchE g LA GA n lc gc most share w given tens sum v1 v2 (srch cs gs most share d given tens sum st))
  | 0, w, given, tens, sum, st, v1, v2, v3, h => search_z cs gs g LA GA n lc gc most share n4 w given tens sum st v1 v2 v3 h
  | d + 1, w, given, tens, sum, st, v1, v2, v3, h => search_s cs gs g LA GA n lc gc most share n4 hcs cok gok m0 m1 s0 s1 d (search_any cs gs g LA GA n lc gc most share n4 hcs cok gok m0 m1 s0 s1 d) w given tens sum st v1 v2 v3 h
end Go.Proofs.Ytemkggecempmgaa
