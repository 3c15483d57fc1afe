/- A slice that reads as a list of cells; rows that a call has made. -/
import Derived.Test.YtoodlpgamlelaaaMem
import Derived.DataReads
import Derived.Laws.MakeOwn
import Derived.OwnWalk
set_option linter.unusedVariables false
namespace Go.Proofs.Ytoodlpgamlelaaa
open Go.RowKit

/-- the slice at A of n elements, k cells each, reads as the cells xs; it lies below block B -/
def Rd (w : World) (B k : Nat) (A : Option Addr) (n : Nat) (xs : List Value) : Prop :=
  xs.length = n * k ∧ (0 < n → ∃ b o, A = some ⟨b, o, none⟩ ∧ b < B ∧ ∀ j u, xs[j]? = some u → w.cell? ⟨b, o + j, none⟩ = some u)
section
variable {w w' : World} {B B' k n : Nat} {A : Option Addr} {xs : List Value}
theorem Rd.nil (w : World) (B k : Nat) (A : Option Addr) : Rd w B k A 0 [] := ⟨by simp, fun h => absurd h (by omega)⟩
theorem Rd.below (h : Rd w B k A n xs) (hb : Below B w w') : Rd w' B k A n xs :=
  ⟨h.1, fun hn => by
    obtain ⟨b, o, e, hl, hc⟩ := h.2 hn
    exact ⟨b, o, e, hl, fun j u hu => (hb.cell (p := ⟨b, o + j, none⟩) hl).trans (hc j u hu)⟩⟩
theorem Rd.more (h : Rd w B k A n xs) (hB : B ≤ B') : Rd w B' k A n xs :=
  ⟨h.1, fun hn => by
    obtain ⟨b, o, e, hl, hc⟩ := h.2 hn
    exact ⟨b, o, e, by omega, hc⟩⟩
/-- into a later world, told below its own end -/
theorem Rd.next (h : Rd w w.heap.size k A n xs) (hb : Below w.heap.size w w') : Rd w' w'.heap.size k A n xs := (h.below hb).more hb.size
theorem Rd.blk {g : Nat} {t : TypeId} (h : Blk w g t xs.toArray) (hx : xs.length = n * k) (hg : g < B) : Rd w B k (some ⟨g, 0, none⟩) n xs :=
  ⟨hx, fun _ => ⟨g, 0, rfl, hg, fun j u hu => by rw [Nat.zero_add, h.cell j]; simpa using hu⟩⟩
theorem Rd.own {base : Nat} {e : TypeId} {c : Nat} (h : w.ownsRow base e k (.slice A n c) n xs) : Rd w w.heap.size k A n xs := by
  refine ⟨h.1, fun hn => ?_⟩
  rcases h.2 with ⟨_, h0⟩ | ⟨g, cap, cur, hv, _, hg, hnc, hcm, hs, ht⟩
  · omega
  · injection hv with hA _ _
    refine ⟨g, 0, hA, (Array.getElem?_eq_some_iff.1 hg).1, fun j u hu => ?_⟩
    rw [Nat.zero_add, cell_of_row w g j cur e (0, 0) hg]
    rw [← ht, List.getElem?_take] at hu
    split at hu
    · simpa using hu
    · cases hu
end
theorem flat_get {α : Type} {f : α → List Value} {k : Nat} (hf : ∀ x, (f x).length = k) : ∀ (l : List α) (i j : Nat) (x : α) (u : Value), l[i]? = some x → (f x)[j]? = some u → (l.flatMap f)[i * k + j]? = some u
  | [], i, j, x, u, h, _ => by simp at h
  | y :: l, 0, j, x, u, h, g => by
    simp at h
    subst h
    have hj : j < (f y).length := (List.getElem?_eq_some_iff.1 g).1
    simp [List.flatMap_cons, List.getElem?_append_left hj, g]
  | y :: l, i + 1, j, x, u, h, g => by
    have := flat_get hf l i j x u (by simpa using h) g
    rw [List.flatMap_cons, List.getElem?_append_right (by rw [hf, Nat.add_mul]; omega), hf]
    rw [show (i + 1) * k + j - k = i * k + j by rw [Nat.add_mul]; omega]
    exact this
theorem flat_len {α : Type} {f : α → List Value} {k : Nat} (hf : ∀ x, (f x).length = k) (l : List α) : (l.flatMap f).length = l.length * k := by
  induction l with
  | nil => simp
  | cons a l ih => rw [List.flatMap_cons, List.length_append, ih, hf, List.length_cons, Nat.add_mul]; omega
/-- where the elements lie -/
theorem Rd.at_ {w : World} {B k n : Nat} {A : Option Addr} {α : Type} {f : α → List Value} {l : List α} (h : Rd w B k A n (l.flatMap f)) (hf : ∀ x, (f x).length = k) (hn : 0 < n) :
    ∃ b o, A = some ⟨b, o, none⟩ ∧ b < B ∧ ∀ i x j u, l[i]? = some x → (f x)[j]? = some u → w.cell? ⟨b, o + i * k + j, none⟩ = some u := by
  obtain ⟨b, o, e, hl, hc⟩ := h.2 hn
  exact ⟨b, o, e, hl, fun i x j u hi hj => by rw [Nat.add_assoc]; exact hc _ _ (flat_get hf l i j x u hi hj)⟩
/-- a cell below B, in a world of the class -/
theorem bel_at {B : Nat} {W0 : World} {b o : Nat} {v : Value} (hc : W0.cell? ⟨b, o, none⟩ = some v) (hb : b < B) (u : Bel B W0) : u.val.cell? ⟨b, o, none⟩ = some v := (u.below.cell (p := ⟨b, o, none⟩) hb).trans hc
/-- make([]T, n): a new block -/
theorem make_run {P : Program} {t e : TypeId} {z : Value} {k bytes : Nat} (ht : P.underlying t = some (.slice e)) (hi : (P.info? e).map (fun i => (i.zero, i.size, i.bytes)) = some (some z, k, bytes)) (n : Nat) (hb : bytes * n ≤ 281474976710656) (hm : n ≤ maxLen) :
    ∃ cs : Array Value, cs.size = n * k ∧ (∀ j, j < n * k → cs[j]? = some (z.cells[j % z.cells.size]!)) ∧ ∀ w : World, (Instr.makeSlice t (.int .i64 (n : Int)) (.int .i64 (n : Int))).run P w = .ok (.slice (some ⟨w.heap.size, 0, none⟩) n n) (w.alloc (.cells cs e)) := by
  obtain ⟨i, hi2, hz, hs, hby⟩ := info_parts hi
  subst hs hby
  unfold maxLen at hm
  refine ⟨madeCells z.cells (n * i.size), size_madeCells _ _, ?_, fun w => ?_⟩
  · intro j hj
    simp [madeCells, hj]
  · have hb' : (i.bytes : Int) * (n : Int) ≤ 281474976710656 := by
      have h : ((i.bytes * n : Nat) : Int) ≤ 281474976710656 := by omega
      rwa [Int.natCast_mul] at h
    have := run_make (P := P) w t e i z ht hi2 hz .i64 .i64 n n (by omega) (Int.le_refl _) hb' (by omega)
    simpa using this
/-- a row that is filled from its head: the first m cells stand -/
def Fill (w : World) (g : Nat) (t : TypeId) (n m : Nat) (xs : List Value) : Prop := ∃ cs : Array Value, Blk w g t cs ∧ cs.size = n ∧ ∀ j, j < m → cs[j]? = xs[j]?
section
variable {w w' : World} {g n m : Nat} {t : TypeId} {xs : List Value}
theorem Fill.start {cs : Array Value} (h : Blk w g t cs) (hs : cs.size = n) : Fill w g t n 0 xs := ⟨cs, h, hs, fun j hj => absurd hj (by omega)⟩
theorem Fill.lt (h : Fill w g t n m xs) : g < w.heap.size := by obtain ⟨cs, hb, _⟩ := h; exact hb.lt
theorem Fill.below {B : Nat} (h : Fill w g t n m xs) (hb : Below B w w') (hg : g < B) : Fill w' g t n m xs := by
  obtain ⟨cs, hk, hs, hc⟩ := h
  exact ⟨cs, hk.below hb hg, hs, hc⟩
theorem Fill.step {u : Value} (h : Fill w g t n m xs) (hu : xs[m]? = some u) (hm : m < n) : Fill (w.setCell ⟨g, m, none⟩ u) g t n (m + 1) xs := by
  obtain ⟨cs, hk, hs, hc⟩ := h
  refine ⟨_, hk.set_ m u, by simp [hs], fun j hj => ?_⟩
  by_cases e : m = j
  · subst e; simp [hs, hm, hu]
  · rw [Array.getElem?_setIfInBounds_ne e]; exact hc j (by omega)
theorem Fill.done (h : Fill w g t n n xs) (hx : xs.length = n) : Blk w g t xs.toArray := by
  obtain ⟨cs, hk, hs, hc⟩ := h
  have : cs = xs.toArray := by
    apply Array.ext_getElem?
    intro j
    by_cases hj : j < n
    · rw [hc j hj]; simp
    · rw [Array.getElem?_eq_none (by omega), Array.getElem?_eq_none (by simp; omega)]
  rw [← this]; exact hk
theorem Fill.room {j : Nat} (h : Fill w g t n m xs) (hm : j < n) : (∃ v, w.cell? ⟨g, j, none⟩ = some v) ∧ w.frozen? ⟨g, j, none⟩ = false := by
  obtain ⟨cs, hk, hs, hc⟩ := h
  exact ⟨⟨cs[j]'(by omega), by rw [hk.cell j, Array.getElem?_eq_getElem (by omega)]⟩, hk.frozen j⟩
end
theorem getD_of {α : Type} {l : List α} {i : Nat} (h : i < l.length) : ∃ x, l[i]? = some x ∧ x ∈ l := ⟨l[i], List.getElem?_eq_getElem h, List.getElem_mem h⟩
/-- what a size's test answers: -1, or what is left behind n -/
def SzE (n : Nat) (l : Int) (w : World) (e : Ending) (w' : World) : Prop := ∃ r : Int, (r = -1 ∨ (0 ≤ r ∧ r + n ≤ l)) ∧ e = .returned (.int .i64 r) ∧ Below w.heap.size w w'
end Go.Proofs.Ytoodlpgamlelaaa
