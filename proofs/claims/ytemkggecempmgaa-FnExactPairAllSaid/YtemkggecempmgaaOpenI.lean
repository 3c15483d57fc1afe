/- What the walks are told of slices of numbers that came in. -/
import Derived.Test.YtemkggecempmgaaOpenS
import Derived.Test.YtemkggecempmgaaLines
set_option linter.unusedVariables false
namespace Go.Proofs.Ytemkggecempmgaa
open Go.ChangeShapes Go.WideShapes Go.ChangeAt Go.RowKit

theorem flat_iv (ds : List Int) : ds.flatMap (fun z => [Value.int .i64 z]) = iv ds := by
  induction ds with
  | nil => rfl
  | cons a ds ih => rw [List.flatMap_cons, ih]; rfl
section
variable {H : Type} {enc : TypeId × Value → H} {w : World} {r : Reach} {b0 base : Nat} {spare : Nat → Bool} {held : Bool} {v : Value} {d : DataW H} {p : List MemPlace}
set_option maxRecDepth 100000 in
theorem open_ints1 {fuel : Nat} {cs : List Value} {x : DataW H × List MemPlace} (h : DataW.trod enc Try.prog w base spare held fuel 29 cs = some x) :
    ∃ (A : Option Addr) (n c : Nat) (zs : List Int), cs = [.slice A n c] ∧ n ≤ maxLen ∧ Rd w w.heap.size 1 A n (iv zs) ∧ (∀ z ∈ zs, i64R z) ∧ n ≤ c := by
  obtain ⟨A, n, c, ds, hcs, hl, hm, hr, hg, hq⟩ := open_rows (k := 1) (f := fun z : Int => [Value.int .i64 z]) (good := fun z : Int => i64R z) (by omega) (fun _ => rfl) Try.underlying29 (by kernel_rfl) h (by
    intro fuel cs y hl hf
    obtain ⟨a, e, _, wa⟩ := DataW.trod_int Try.underlying2 hf
    exact ⟨a, e, i64R_of wa⟩)
  rw [flat_iv] at hr
  exact ⟨A, n, c, ds, hcs, hm, hr, hg, hq⟩
def IsI64S (w : World) (v : Value) : Prop := ∃ (A : Option Addr) (n c : Nat) (zs : List Int), v = .slice A n c ∧ n ≤ maxLen ∧ Rd w w.heap.size 1 A n (iv zs) ∧ ∀ z ∈ zs, i64R z
set_option maxRecDepth 100000 in
theorem open_IsI64S (hv : Value.okWide Try.prog w r b0 29 v) (h : DataW.Trod enc Try.prog w base spare held 29 v d p) : IsI64S w v := by
  obtain ⟨A, n, c, rfl⟩ := okWide_slice Try.underlying29 hv
  obtain ⟨fuel, hf⟩ := h
  obtain ⟨A', n', c', zs, hcs, hm, hr, hg, hq⟩ := open_ints1 hf
  simp [Value.cells] at hcs
  obtain ⟨rfl, rfl, rfl⟩ := hcs
  exact ⟨_, _, _, zs, rfl, hm, hr, hg⟩
def IsI64SS (w : World) (v : Value) : Prop := ∃ (A : Option Addr) (n c : Nat) (rs : List (List Int)), v = .slice A n c ∧ n ≤ maxLen ∧ Rd2 w 0 w.heap.size A n rs ∧ ∀ r ∈ rs, r.length ≤ maxLen
set_option maxRecDepth 100000 in
theorem open_IsI64SS (hv : Value.okWide Try.prog w r b0 26 v) (h : DataW.Trod enc Try.prog w base spare held 26 v d p) : IsI64SS w v := by
  obtain ⟨A, n, c, rfl⟩ := okWide_slice Try.underlying26 hv
  obtain ⟨fuel, hf⟩ := h
  obtain ⟨A', n', c', ds, hcs, hl, hm, hr, hg, _⟩ := open_rows (k := 1) (f := fun x : List Int × Option Addr × Nat => [Value.slice x.2.1 x.1.length x.2.2]) (good := fun x => Rd w w.heap.size 1 x.2.1 x.1.length (iv x.1) ∧ x.1.length ≤ maxLen ∧ x.1.length ≤ x.2.2) (by omega) (fun _ => rfl) Try.underlying26 (by kernel_rfl) hf (by
    intro fuel cs y hl hf
    obtain ⟨A, n, c, zs, e, hm, hr, _, hq⟩ := open_ints1 hf
    have hz : zs.length = n := hr.len
    subst hz
    exact ⟨(zs, A, c), e, hr, hm, hq⟩)
  simp [Value.cells] at hcs
  obtain ⟨rfl, rfl, rfl⟩ := hcs
  refine ⟨_, _, _, ds.map (·.1), rfl, hm, ⟨by simpa using hl, _, ⟨hr, fun _ _ _ => Nat.zero_le _⟩, fun i r hir => ?_⟩, fun r hr' => ?_⟩
  · rw [List.getElem?_map] at hir
    obtain ⟨x, hx, rfl⟩ := Option.map_eq_some_iff.1 hir
    have := flat_get (f := fun x : List Int × Option Addr × Nat => [Value.slice x.2.1 x.1.length x.2.2]) (k := 1) (fun _ => rfl) ds i 0 x _ hx rfl
    refine ⟨x.2.1, x.2.2, by simpa using this, ⟨(hg x (List.mem_of_getElem? hx)).1, fun _ _ _ => Nat.zero_le _⟩, (hg x (List.mem_of_getElem? hx)).2.2⟩
  · obtain ⟨x, hx, rfl⟩ := List.mem_map.1 hr'
    exact (hg x hx).2.1
end
end Go.Proofs.Ytemkggecempmgaa
