/- Slices of numbers: copies, equality, marks. -/
import Derived.Test.YtnfmnllkplpgeaaBase
import Derived.Test.YtnfmnllkplpgeaaLines
set_option linter.unusedVariables false
namespace Go.Proofs.Ytnfmnllkplpgeaa
open Go.RowKit

theorem info64 : (Try.prog.info? 2).map (fun i => (i.zero, i.size, i.bytes)) = some (some (.int .i64 0), 1, 8) := by kernel_rfl
theorem fill64 {w : World} {g n k : Nat} {t : TypeId} {zs : List Int} {z : Int} (h : Fill w g t n k (iv zs)) (hz : zs[k]? = some z) (hk : k < n) : Fill (w.setCell ⟨g, k, none⟩ (.int .i64 z)) g t n (k + 1) (iv zs) := h.step (iv_get hz) hk
def MarkAt (w : World) (L : Nat) (t : TypeId) (v : Value) (n : Nat) (k : Int) (i : Nat) : Prop := ∃ ys : List Value, w.ownsRow L t 1 v n ys ∧ ∀ j, j < i → ys[j]? = some (.int .i64 (k + j))
theorem MarkAt.step {w : World} {L g n c i : Nat} {t : TypeId} {k : Int} (h : MarkAt w L t (.slice (some ⟨g, 0, none⟩) n c) n k i) (hi : i < n) : MarkAt (w.setCell ⟨g, i, none⟩ (.int .i64 (k + i))) L t (.slice (some ⟨g, 0, none⟩) n c) n k (i + 1) := by
  obtain ⟨ys, hy, hc⟩ := h
  refine ⟨_, (hy.stored i _).1, fun j hj => ?_⟩
  have hl := hy.1
  by_cases e : i = j
  · subst e; rw [List.getElem?_set_self (by omega)]
  · rw [List.getElem?_set_ne e]; exact hc j (by omega)
theorem MarkAt.done {w : World} {L n : Nat} {t : TypeId} {v : Value} {k : Int} (h : MarkAt w L t v n k n) : w.ownsRow L t 1 v n (iv (cnt k n)) := by
  obtain ⟨ys, hy, hc⟩ := h
  rw [← cnt_all (by have := hy.1; omega) hc]; exact hy
theorem MarkAt.where_ {w : World} {L n c i : Nat} {A : Option Addr} {t : TypeId} {k : Int} (h : MarkAt w L t (.slice A n c) n k i) (hi : i < n) : ∃ g, A = some ⟨g, 0, none⟩ ∧ (∃ v, w.cell? ⟨g, i, none⟩ = some v) ∧ w.frozen? ⟨g, i, none⟩ = false ∧ L ≤ g ∧ g < w.heap.size := by
  obtain ⟨ys, hy, hc⟩ := h
  have hl := hy.1
  rcases hy.2 with ⟨_, h0⟩ | ⟨g, cap, cur, hv, hb, hg, _⟩
  · omega
  · injection hv with hA hn hcap
    subst hA
    subst hcap
    refine ⟨g, rfl, ⟨ys[i]'(by omega), ?_⟩, hy.frozenAt i, hb, (Array.getElem?_eq_some_iff.1 hg).1⟩
    rw [hy.cellAt i (by omega), List.getElem?_eq_getElem (by omega)]
end Go.Proofs.Ytnfmnllkplpgeaa
