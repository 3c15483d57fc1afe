/- What the walks are told of a string that came in. -/
import Derived.Test.YtmngjlamnkkaeaaOpen
set_option linter.unusedVariables false
namespace Go.Proofs.Ytmngjlamnkkaeaa
open Go.ChangeShapes Go.WideShapes Go.ChangeAt Go.RowKit
open Go.ChangeMaps (open_string shut_string)
def IsStr (_w : World) (v : Value) : Prop := ∃ s : ByteArray, v = .string s ∧ s.size ≤ maxLen
section
variable {H : Type} {enc : TypeId × Value → H} {w : World} {r : Reach} {b0 base : Nat} {spare : Nat → Bool} {held : Bool} {v : Value} {d : DataW H} {p : List MemPlace}
set_option maxRecDepth 100000 in
theorem open_IsStr (hv : Value.okWide Try.prog w r b0 9 v) (h : DataW.Trod enc Try.prog w base spare held 9 v d p) : IsStr w v := by
  obtain ⟨s, rfl, rfl, rfl, hs⟩ := open_string Try.underlying9 hv h
  exact ⟨s, rfl, hs⟩
end
end Go.Proofs.Ytmngjlamnkkaeaa
