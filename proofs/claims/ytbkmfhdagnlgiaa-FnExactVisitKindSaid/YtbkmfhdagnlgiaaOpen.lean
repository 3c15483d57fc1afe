/- What the walks are told of the arguments that came in, and how a row's reading gives it. -/
import Derived.Test.YtbkmfhdagnlgiaaRows
import Derived.WalkKit
import Derived.ProofKit
import Derived.OpenShut
import Derived.ShutString
import Derived.Lib.SmallJoins
import Derived.Below
set_option linter.unusedVariables false
namespace Go.Proofs.Ytbkmfhdagnlgiaa
open Go.ChangeShapes Go.WideShapes Go.ChangeAt Go.RowKit
open Go.ChangeMaps (open_string shut_string)

def i64R (a : Int) : Prop := -9223372036854775808 ≤ a ∧ a ≤ 9223372036854775807
theorem i64R_of {a : Int} (h : (Lit.int .i64 a).wf = true) : i64R a := by
  have := bounds_i64 h
  exact this
def IsI64 (_w : World) (v : Value) : Prop := ∃ a : Int, v = .int .i64 a ∧ i64R a
section
variable {H : Type} {enc : TypeId × Value → H} {w : World} {r : Reach} {b0 base : Nat} {spare : Nat → Bool} {held : Bool} {v : Value} {d : DataW H} {p : List MemPlace}
theorem open_IsI64 (hv : Value.okWide Try.prog w r b0 2 v) (h : DataW.Trod enc Try.prog w base spare held 2 v d p) : IsI64 w v := by
  obtain ⟨a, rfl, rfl, rfl, wa⟩ := open_int Try.underlying2 hv h
  exact ⟨a, rfl, i64R_of wa⟩
end
end Go.Proofs.Ytbkmfhdagnlgiaa
