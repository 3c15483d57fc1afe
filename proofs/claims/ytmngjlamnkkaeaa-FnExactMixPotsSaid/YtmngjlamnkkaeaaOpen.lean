/- What the walks are told of the arguments that came in, and how a row's reading gives it. -/
import Derived.Test.YtmngjlamnkkaeaaRows
import Derived.WalkKit
import Derived.ProofKit
import Derived.OpenShut
import Derived.ShutString
import Derived.Lib.SmallJoins
import Derived.Below
set_option linter.unusedVariables false
namespace Go.Proofs.Ytmngjlamnkkaeaa
open Go.ChangeShapes Go.WideShapes Go.ChangeAt Go.RowKit
open Go.ChangeMaps (open_string shut_string)

def i64R (a : Int) : Prop := -9223372036854775808 ≤ a ∧ a ≤ 9223372036854775807
theorem i64R_of {a : Int} (h : (Lit.int .i64 a).wf = true) : i64R a := by
  have := bounds_i64 h
  exact this
def IsI64 (_w : World) (v : Value) : Prop := ∃ a : Int, v = .int .i64 a ∧ i64R a
section
variable {H : Type} {enc : TypeId × Value → H} {w : World} {r : Reach} {b0 base : Nat} {spare : Nat → Bool} {held : Bool} {v : Value} {d : DataW H} {p : List MemPlace}
set_option maxRecDepth 100000 in
theorem open_IsI64 (hv : Value.okWide Try.prog w r b0 2 v) (h : DataW.Trod enc Try.prog w base spare held 2 v d p) : IsI64 w v := by
  obtain ⟨a, rfl, rfl, rfl, wa⟩ := open_int Try.underlying2 hv h
  exact ⟨a, rfl, i64R_of wa⟩
set_option maxRecDepth 100000 in
theorem field_at {t : TypeId} {fs : Array Field} {fuel : Nat} {cs : List Value} {x : DataW H × List MemPlace} (ht : Try.prog.underlying t = some (.struct fs)) (h : DataW.trod enc Try.prog w base spare held fuel t cs = some x) :
    ∀ (i : Nat) (f : Field), fs[i]? = some f → ∃ n y, DataW.trod enc Try.prog w base spare held n f.type ((cs.drop f.offset).take (Try.prog.cellsOf f.type)) = some y := by
  obtain ⟨xs, n, _, _, _, hl, hg⟩ := DataW.trod_struct ht h
  intro i f hf
  have hi : i < fs.size := (Array.getElem?_eq_some_iff.1 hf).1
  exact ⟨n, xs[i]'(by omega), (hg i f hf).trans (List.getElem?_eq_getElem (by omega))⟩
def IsPot (_w : World) (v : Value) : Prop := ∃ (s0 : ByteArray) (a1 : Int) (a2 : Int) (a3 : Int) (a4 : Int), v = .agg #[.string s0, .int .i64 a1, .int .i64 a2, .int .i64 a3, .int .i64 a4] ∧ s0.size ≤ maxLen ∧ i64R a1 ∧ i64R a2 ∧ i64R a3 ∧ i64R a4
set_option maxRecDepth 100000 in
theorem open_IsPot (hv : Value.okWide Try.prog w r b0 23 v) (h : DataW.Trod enc Try.prog w base spare held 23 v d p) : IsPot w v := by
  obtain ⟨cs, rfl, hsz⟩ := okWide_struct Try.underlying23 hv
  obtain ⟨l⟩ := cs
  have hC : Try.prog.cellsOf 23 = 5 := by kernel_rfl
  have c1 : Try.prog.cellsOf 2 = 1 := by kernel_rfl
  have c2 : Try.prog.cellsOf 9 = 1 := by kernel_rfl
  match l, hsz.trans hC with
  | [x0, x1, x2, x3, x4], _ =>
    obtain ⟨fuel, hf⟩ := h
    have hg := field_at Try.underlying23 hf
    obtain ⟨n0, y0, h0⟩ := hg 0 _ rfl
    obtain ⟨s0, e0, _, w0⟩ := DataW.trod_string Try.underlying9 h0
    simp [Value.cells, c2] at e0
    subst e0
    obtain ⟨n1, y1, h1⟩ := hg 1 _ rfl
    obtain ⟨a1, e1, _, w1⟩ := DataW.trod_int Try.underlying2 h1
    simp [Value.cells, c1] at e1
    subst e1
    obtain ⟨n2, y2, h2⟩ := hg 2 _ rfl
    obtain ⟨a2, e2, _, w2⟩ := DataW.trod_int Try.underlying2 h2
    simp [Value.cells, c1] at e2
    subst e2
    obtain ⟨n3, y3, h3⟩ := hg 3 _ rfl
    obtain ⟨a3, e3, _, w3⟩ := DataW.trod_int Try.underlying2 h3
    simp [Value.cells, c1] at e3
    subst e3
    obtain ⟨n4, y4, h4⟩ := hg 4 _ rfl
    obtain ⟨a4, e4, _, w4⟩ := DataW.trod_int Try.underlying2 h4
    simp [Value.cells, c1] at e4
    subst e4
    exact ⟨s0, a1, a2, a3, a4, rfl, w0, i64R_of w1, i64R_of w2, i64R_of w3, i64R_of w4⟩
end
end Go.Proofs.Ytmngjlamnkkaeaa
