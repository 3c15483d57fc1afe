/- What the walks are told of the arguments that came in, and how a row's reading gives it. -/
import Derived.Test.YtbkmfhdagnlgiaaRows
import Derived.WalkKit
import Derived.ProofKit
import Derived.OpenShut
import Derived.ShutString
import Derived.Lib.SmallJoins
import Derived.Below
set_option linter.unusedVariables false
namespace Go.Proofs.Ytbkmfhdagnlgiaa
open Go.ChangeShapes Go.WideShapes Go.ChangeAt Go.RowKit
open Go.ChangeMaps (open_string shut_string)

def i64R (a : Int) : Prop := -9223372036854775808 ≤ a ∧ a ≤ 9223372036854775807
theorem i64R_of {a : Int} (h : (Lit.int .i64 a).wf = true) : i64R a := by
  have := bounds_i64 h
  exact this
def IsI64 (_w : World) (v : Value) : Prop := ∃ a : Int, v = .int .i64 a ∧ i64R a
section
variable {H : Type} {enc : TypeId × Value → H} {w : World} {r : Reach} {b0 base : Nat} {spare : Nat → Bool} {held : Bool} {v : Value} {d : DataW H} {p : List MemPlace}
set_option maxRecDepth 100000 in
theorem open_IsI64 (hv : Value.okWide Try.prog w r b0 2 v) (h : DataW.Trod enc Try.prog w base spare held 2 v d p) : IsI64 w v := by
  obtain ⟨a, rfl, rfl, rfl, wa⟩ := open_int Try.underlying2 hv h
  exact ⟨a, rfl, i64R_of wa⟩
set_option maxRecDepth 100000 in
theorem field_at {t : TypeId} {fs : Array Field} {fuel : Nat} {cs : List Value} {x : DataW H × List MemPlace} (ht : Try.prog.underlying t = some (.struct fs)) (h : DataW.trod enc Try.prog w base spare held fuel t cs = some x) :
    ∀ (i : Nat) (f : Field), fs[i]? = some f → ∃ n y, DataW.trod enc Try.prog w base spare held n f.type ((cs.drop f.offset).take (Try.prog.cellsOf f.type)) = some y := by
  obtain ⟨xs, n, _, _, _, hl, hg⟩ := DataW.trod_struct ht h
  intro i f hf
  have hi : i < fs.size := (Array.getElem?_eq_some_iff.1 hf).1
  exact ⟨n, xs[i]'(by omega), (hg i f hf).trans (List.getElem?_eq_getElem (by omega))⟩
def IsArc (_w : World) (v : Value) : Prop := ∃ (a b c d e f : Int), v = .agg #[.int .i64 a, .int .i64 b, .int .i64 c, .int .i64 d, .int .i64 e, .int .i64 f]
set_option maxRecDepth 100000 in
theorem open_IsArc (hv : Value.okWide Try.prog w r b0 31 v) (h : DataW.Trod enc Try.prog w base spare held 31 v d p) : IsArc w v := by
  obtain ⟨cs, rfl, hsz⟩ := okWide_struct Try.underlying31 hv
  obtain ⟨l⟩ := cs
  have hC : Try.prog.cellsOf 31 = 6 := by kernel_rfl
  have c1 : Try.prog.cellsOf 2 = 1 := by kernel_rfl
  have c2 : Try.prog.cellsOf 29 = 2 := by kernel_rfl
  match l, hsz.trans hC with
  | [x0, x1, x2, x3, x4, x5], _ =>
    obtain ⟨fuel, hf⟩ := h
    have hg := field_at Try.underlying31 hf
    obtain ⟨n0, y0, g0⟩ := hg 0 _ rfl
    obtain ⟨n1, y1, g1⟩ := hg 1 _ rfl
    obtain ⟨n2, y2, g2⟩ := hg 2 _ rfl
    simp [Value.cells, c2] at g0 g1 g2
    have k0 := field_at Try.underlying29 g0
    have k1 := field_at Try.underlying29 g1
    have k2 := field_at Try.underlying29 g2
    obtain ⟨_, _, h0⟩ := k0 0 _ rfl
    obtain ⟨_, _, h1⟩ := k0 1 _ rfl
    obtain ⟨_, _, h2⟩ := k1 0 _ rfl
    obtain ⟨_, _, h3⟩ := k1 1 _ rfl
    obtain ⟨_, _, h4⟩ := k2 0 _ rfl
    obtain ⟨_, _, h5⟩ := k2 1 _ rfl
    obtain ⟨a0, e0, _, _⟩ := DataW.trod_int Try.underlying2 h0
    obtain ⟨a1, e1, _, _⟩ := DataW.trod_int Try.underlying2 h1
    obtain ⟨a2, e2, _, _⟩ := DataW.trod_int Try.underlying2 h2
    obtain ⟨a3, e3, _, _⟩ := DataW.trod_int Try.underlying2 h3
    obtain ⟨a4, e4, _, _⟩ := DataW.trod_int Try.underlying2 h4
    obtain ⟨a5, e5, _, _⟩ := DataW.trod_int Try.underlying2 h5
    simp [c1] at e0 e1 e2 e3 e4 e5
    subst e0 e1 e2 e3 e4 e5
    exact ⟨a0, a1, a2, a3, a4, a5, rfl⟩
end
end Go.Proofs.Ytbkmfhdagnlgiaa
