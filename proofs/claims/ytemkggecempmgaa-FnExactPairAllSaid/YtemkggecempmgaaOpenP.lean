/- What the walks are told of slices of planks that came in. -/
import Derived.Test.YtemkggecempmgaaOpenS
import Derived.Test.YtemkggecempmgaaPlank
set_option linter.unusedVariables false
namespace Go.Proofs.Ytemkggecempmgaa
open Go.ChangeShapes Go.WideShapes Go.ChangeAt Go.RowKit
section
variable {H : Type} {enc : TypeId × Value → H} {w : World} {r : Reach} {b0 base : Nat} {spare : Nat → Bool} {held : Bool} {v : Value} {d : DataW H} {p : List MemPlace}
def IsPlankS (w : World) (v : Value) : Prop := ∃ (A : Option Addr) (n c : Nat) (ds : List PlankD), v = .slice A n c ∧ ds.length = n ∧ n ≤ maxLen ∧ Rd w w.heap.size 6 A n (ds.flatMap plankF) ∧ plankZ ds
set_option maxRecDepth 100000 in
theorem open_IsPlankS (hv : Value.okWide Try.prog w r b0 62 v) (h : DataW.Trod enc Try.prog w base spare held 62 v d p) : IsPlankS w v := by
  obtain ⟨A, n, c, rfl⟩ := okWide_slice Try.underlying62 hv
  obtain ⟨fuel, hf⟩ := h
  have c1 : Try.prog.cellsOf 2 = 1 := by kernel_rfl
  have c2 : Try.prog.cellsOf 9 = 1 := by kernel_rfl
  obtain ⟨A', n', c', ds, hcs, hl, hm, hr, hg, _⟩ := open_rows (good := fun x : PlankD => x.s0.size ≤ maxLen) (by omega) plankF_len Try.underlying62 (by kernel_rfl) hf (by
    intro fuel cs y hl hf
    match cs, hl with
    | [x0, x1, x2, x3, x4, x5], _ =>
      have hg := field_at Try.underlying105 hf
      obtain ⟨n0, y0, h0⟩ := hg 0 _ rfl
      obtain ⟨s0, e0, _, w0⟩ := DataW.trod_string Try.underlying9 h0
      simp [c2] at e0
      subst e0
      obtain ⟨n1, y1, h1⟩ := hg 1 _ rfl
      obtain ⟨a1, e1, _, w1⟩ := DataW.trod_int Try.underlying2 h1
      simp [c1] at e1
      subst e1
      obtain ⟨n2, y2, h2⟩ := hg 2 _ rfl
      obtain ⟨a2, e2, _, w2⟩ := DataW.trod_int Try.underlying2 h2
      simp [c1] at e2
      subst e2
      obtain ⟨n3, y3, h3⟩ := hg 3 _ rfl
      obtain ⟨a3, e3, _, w3⟩ := DataW.trod_int Try.underlying2 h3
      simp [c1] at e3
      subst e3
      obtain ⟨n4, y4, h4⟩ := hg 4 _ rfl
      obtain ⟨a4, e4, _, w4⟩ := DataW.trod_int Try.underlying2 h4
      simp [c1] at e4
      subst e4
      obtain ⟨n5, y5, h5⟩ := hg 5 _ rfl
      obtain ⟨a5, e5, _, w5⟩ := DataW.trod_int Try.underlying2 h5
      simp [c1] at e5
      subst e5
      exact ⟨⟨s0, a1, a2, a3, a4, a5⟩, rfl, w0⟩)
  simp [Value.cells] at hcs
  obtain ⟨rfl, rfl, rfl⟩ := hcs
  exact ⟨_, _, _, ds, rfl, hl, hm, hr, hg⟩
end
end Go.Proofs.Ytemkggecempmgaa
