/- What the walks are told of slices that came in. -/
import Derived.Test.YtoodlpgamlelaaaOpen
import Derived.Test.YtoodlpgamlelaaaRd
import Derived.Deep.Slices
set_option linter.unusedVariables false
namespace Go.Proofs.Ytoodlpgamlelaaa
open Go.ChangeShapes Go.WideShapes Go.ChangeAt Go.RowKit
open Go.ChangeMaps (open_string shut_string)

theorem list_of {α : Type} {p : Nat → α → Prop} : ∀ {n : Nat}, (∀ i, i < n → ∃ x, p i x) → ∃ l : List α, l.length = n ∧ ∀ i x, l[i]? = some x → p i x
  | 0, _ => ⟨[], rfl, fun i x h => by simp at h⟩
  | n + 1, h => by
    obtain ⟨l, hl, hp⟩ := list_of (n := n) fun i hi => h i (by omega)
    obtain ⟨y, hy⟩ := h n (by omega)
    refine ⟨l ++ [y], by simp [hl], fun i x hx => ?_⟩
    by_cases hi : i < n
    · rw [List.getElem?_append_left (by omega)] at hx; exact hp i x hx
    · rw [List.getElem?_append_right (by omega)] at hx
      have : i = n := by
        have := (List.getElem?_eq_some_iff.1 hx).1
        simp at this; omega
      subst this
      rw [show i - l.length = 0 by omega] at hx
      simp at hx
      subst hx
      exact hy
section
variable {H : Type} {enc : TypeId × Value → H} {w : World} {r : Reach} {b0 base : Nat} {spare : Nat → Bool} {held : Bool} {v : Value} {d : DataW H} {p : List MemPlace}
theorem flat_at {α : Type} {f : α → List Value} {k : Nat} (hk : 0 < k) (hf : ∀ x, (f x).length = k) {l : List α} {j : Nat} {u : Value} (h : (l.flatMap f)[j]? = some u) : ∃ x, l[j / k]? = some x ∧ (f x)[j % k]? = some u := by
  have hj : j < (l.flatMap f).length := (List.getElem?_eq_some_iff.1 h).1
  rw [flat_len hf] at hj
  have hi : j / k < l.length := (Nat.div_lt_iff_lt_mul hk).2 hj
  have hr : j % k < k := Nat.mod_lt _ hk
  refine ⟨l[j / k], List.getElem?_eq_getElem hi, ?_⟩
  have h1 : (f l[j / k])[j % k]? = some ((f l[j / k])[j % k]'(by rw [hf]; exact hr)) := List.getElem?_eq_getElem _
  have h2 := flat_get hf l (j / k) (j % k) _ _ (List.getElem?_eq_getElem hi) h1
  rw [show j / k * k + j % k = j by rw [Nat.mul_comm]; exact Nat.div_add_mod j k] at h2
  rw [h1, ← h2, h]
set_option maxRecDepth 100000 in
theorem open_rows {α : Type} {t e : TypeId} {k : Nat} {f : α → List Value} {good : α → Prop} {fuel : Nat} {cs : List Value} {x : DataW H × List MemPlace} (hk : 0 < k) (hf : ∀ x, (f x).length = k)
    (ht : Try.prog.underlying t = some (.slice e)) (hC : Try.prog.cellsOf e = k) (h : DataW.trod enc Try.prog w base spare held fuel t cs = some x)
    (hel : ∀ fuel cs y, cs.length = k → DataW.trod enc Try.prog w base spare held fuel e cs = some y → ∃ x, cs = f x ∧ good x) :
    ∃ (A : Option Addr) (n c : Nat) (ds : List α), cs = [.slice A n c] ∧ ds.length = n ∧ n ≤ maxLen ∧ Rd w w.heap.size k A n (ds.flatMap f) ∧ (∀ x ∈ ds, good x) ∧ n ≤ c := by
  rcases Go.Deep.open_slice ht h with ⟨hcs, _⟩ | ⟨a, len, cap, m, n, D, Pl, hcs, _, hl, hm, hmm, _, hx⟩
  · exact ⟨none, 0, 0, [], hcs, rfl, Nat.zero_le _, Rd.nil _ _ _ _, by simp, Nat.le_refl _⟩
  · have hlm : len ≤ m := by rw [hmm]; split <;> omega
    have each : ∀ i, i < len → ∃ y : α, good y ∧ ∀ j u, (f y)[j]? = some u → w.cell? (a.add (i * k + j)) = some u := by
      intro i hi
      obtain ⟨cs', hc, htr⟩ := hx i (by omega)
      rw [hC] at hc
      obtain ⟨_, hcl, hat⟩ := World.cells?_some hc
      obtain ⟨y, rfl, hg⟩ := hel _ _ _ hcl htr
      refine ⟨y, hg, fun j u hu => ?_⟩
      have hj : j < k := by rw [← hf y]; exact (List.getElem?_eq_some_iff.1 hu).1
      have := hat j hj
      rw [Go.Deep.add_add] at this
      rw [this, hu]
    obtain ⟨ds, hdl, hds⟩ := list_of each
    refine ⟨some a, len, cap, ds, hcs, hdl, by omega, ⟨by rw [flat_len hf, hdl], fun h0 => ?_⟩, fun y hy => ?_, hl⟩
    · obtain ⟨bl, off, sp⟩ := a
      have y0 : ds[0]? = some (ds[0]'(by omega)) := List.getElem?_eq_getElem _
      obtain ⟨_, hc0⟩ := hds 0 _ y0
      have hcell := hc0 0 _ (List.getElem?_eq_getElem (by rw [hf]; exact hk))
      simp [Addr.add] at hcell
      have hsp := World.cell?_spot hcell
      have hlt := World.block_lt_of_cell? w _ hcell
      simp at hsp hlt
      subst hsp
      refine ⟨bl, off, rfl, hlt, fun j u hu => ?_⟩
      obtain ⟨y, hy, hu'⟩ := flat_at hk hf hu
      have hc := (hds (j / k) y hy).2 (j % k) u hu'
      rw [show j / k * k + j % k = j by rw [Nat.mul_comm]; exact Nat.div_add_mod j k] at hc
      rw [← hc]
      unfold Addr.add
      split
      · subst_vars; rfl
      · rfl
    · obtain ⟨i, hi, rfl⟩ := List.getElem_of_mem hy
      exact (hds i _ (List.getElem?_eq_getElem hi)).1
end
end Go.Proofs.Ytoodlpgamlelaaa
