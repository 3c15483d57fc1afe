/- What the walks are told of slices of strings (of instruments) that came in. -/
import Derived.Test.YtemkggecempmgaaOpenS
import Derived.Test.YtemkggecempmgaaCords
set_option linter.unusedVariables false
namespace Go.Proofs.Ytemkggecempmgaa
open Go.ChangeShapes Go.WideShapes Go.ChangeAt Go.RowKit
section
variable {H : Type} {enc : TypeId × Value → H} {w : World} {r : Reach} {b0 base : Nat} {spare : Nat → Bool} {held : Bool} {v : Value} {d : DataW H} {p : List MemPlace}
def IsCordS (w : World) (v : Value) : Prop := ∃ (A : Option Addr) (n c : Nat) (ds : List CordD), v = .slice A n c ∧ ds.length = n ∧ n ≤ maxLen ∧ Rd w w.heap.size 4 A n (ds.flatMap cordF) ∧ cordZ ds
set_option maxRecDepth 100000 in
theorem open_IsCordS (hv : Value.okWide Try.prog w r b0 42 v) (h : DataW.Trod enc Try.prog w base spare held 42 v d p) : IsCordS w v := by
  obtain ⟨A, n, c, rfl⟩ := okWide_slice Try.underlying42 hv
  obtain ⟨fuel, hf⟩ := h
  have c1 : Try.prog.cellsOf 2 = 1 := by kernel_rfl
  obtain ⟨A', n', c', ds, hcs, hl, hm, hr, hg, _⟩ := open_rows (good := fun x : CordD => True) (by omega) cordF_len Try.underlying42 (by kernel_rfl) hf (by
    intro fuel cs y hl hf
    match cs, hl with
    | [x0, x1, x2, x3], _ =>
      have hg := field_at Try.underlying88 hf
      obtain ⟨n0, y0, h0⟩ := hg 0 _ rfl
      obtain ⟨a0, e0, _, w0⟩ := DataW.trod_int Try.underlying2 h0
      simp [c1] at e0
      subst e0
      obtain ⟨n1, y1, h1⟩ := hg 1 _ rfl
      obtain ⟨a1, e1, _, w1⟩ := DataW.trod_int Try.underlying2 h1
      simp [c1] at e1
      subst e1
      obtain ⟨n2, y2, h2⟩ := hg 2 _ rfl
      obtain ⟨a2, e2, _, w2⟩ := DataW.trod_int Try.underlying2 h2
      simp [c1] at e2
      subst e2
      obtain ⟨n3, y3, h3⟩ := hg 3 _ rfl
      obtain ⟨a3, e3, _, w3⟩ := DataW.trod_int Try.underlying2 h3
      simp [c1] at e3
      subst e3
      exact ⟨⟨a0, a1, a2, a3⟩, rfl, trivial⟩)
  simp [Value.cells] at hcs
  obtain ⟨rfl, rfl, rfl⟩ := hcs
  exact ⟨_, _, _, ds, rfl, hl, hm, hr, hg⟩
end
end Go.Proofs.Ytemkggecempmgaa
