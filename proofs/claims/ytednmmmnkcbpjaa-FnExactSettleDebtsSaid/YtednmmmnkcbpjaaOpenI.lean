/- What the walks are told of slices of numbers that came in. -/
import Derived.Test.YtednmmmnkcbpjaaOpenS
import Derived.Test.YtednmmmnkcbpjaaLines
set_option linter.unusedVariables false
namespace Go.Proofs.Ytednmmmnkcbpjaa
open Go.ChangeShapes Go.WideShapes Go.ChangeAt Go.RowKit

theorem flat_iv (ds : List Int) : ds.flatMap (fun z => [Value.int .i64 z]) = iv ds := by
  induction ds with
  | nil => rfl
  | cons a ds ih => rw [List.flatMap_cons, ih]; rfl
section
variable {H : Type} {enc : TypeId × Value → H} {w : World} {r : Reach} {b0 base : Nat} {spare : Nat → Bool} {held : Bool} {v : Value} {d : DataW H} {p : List MemPlace}
set_option maxRecDepth 100000 in
theorem open_ints1 {fuel : Nat} {cs : List Value} {x : DataW H × List MemPlace} (h : DataW.trod enc Try.prog w base spare held fuel 24 cs = some x) :
    ∃ (A : Option Addr) (n c : Nat) (zs : List Int), cs = [.slice A n c] ∧ n ≤ maxLen ∧ Rd w w.heap.size 1 A n (iv zs) ∧ (∀ z ∈ zs, i64R z) ∧ n ≤ c := by
  obtain ⟨A, n, c, ds, hcs, hl, hm, hr, hg, hq⟩ := open_rows (k := 1) (f := fun z : Int => [Value.int .i64 z]) (good := fun z : Int => i64R z) (by omega) (fun _ => rfl) Try.underlying24 (by kernel_rfl) h (by
    intro fuel cs y hl hf
    obtain ⟨a, e, _, wa⟩ := DataW.trod_int Try.underlying2 hf
    exact ⟨a, e, i64R_of wa⟩)
  rw [flat_iv] at hr
  exact ⟨A, n, c, ds, hcs, hm, hr, hg, hq⟩
def IsI64S (w : World) (v : Value) : Prop := ∃ (A : Option Addr) (n c : Nat) (zs : List Int), v = .slice A n c ∧ n ≤ maxLen ∧ Rd w w.heap.size 1 A n (iv zs) ∧ ∀ z ∈ zs, i64R z
set_option maxRecDepth 100000 in
theorem open_IsI64S (hv : Value.okWide Try.prog w r b0 24 v) (h : DataW.Trod enc Try.prog w base spare held 24 v d p) : IsI64S w v := by
  obtain ⟨A, n, c, rfl⟩ := okWide_slice Try.underlying24 hv
  obtain ⟨fuel, hf⟩ := h
  obtain ⟨A', n', c', zs, hcs, hm, hr, hg, hq⟩ := open_ints1 hf
  simp [Value.cells] at hcs
  obtain ⟨rfl, rfl, rfl⟩ := hcs
  exact ⟨_, _, _, zs, rfl, hm, hr, hg⟩
end
end Go.Proofs.Ytednmmmnkcbpjaa
