/- Rows of rows that a call makes: append of a row, a store into the last. -/
import Derived.Test.YtoodlpgamlelaaaInts2
import Derived.OwnWalk
set_option linter.unusedVariables false
namespace Go.Proofs.Ytoodlpgamlelaaa
open Go.RowKit

theorem Own2.more {w : World} {L B B' n : Nat} {ts t : TypeId} {v : Value} {rs : List (List Int)} (h : Own2 w L B ts t v n rs) (hB : B ≤ B') : Own2 w L B' ts t v n rs := by
  obtain ⟨hl, hb, vs, h1, h2, h3⟩ := h
  refine ⟨hl, fun k hk => Nat.lt_of_lt_of_le (hb k hk) hB, vs, h1, fun i r hr => ?_, h3⟩
  obtain ⟨u, e, ho, hk⟩ := h2 i r hr
  exact ⟨u, e, ho, fun k hk1 => Nat.lt_of_lt_of_le (hk k hk1) hB⟩
theorem own2_empty (w : World) (ts t : TypeId) : Own2 (w.alloc (.cells #[] ts)) w.heap.size (w.alloc (.cells #[] ts)).heap.size ts t (.slice (some ⟨w.heap.size, 0, none⟩) 0 0) ([] : List (List Int)).length [] :=
  ⟨rfl, fun k hk => by simp [Value.ownBlock] at hk; simp; omega, [], World.ownsRow_lit w #[] 0 (Nat.le_refl _) (Nat.zero_le _) (by simp), fun i r hr => by simp at hr, fun i j u u' _ hu => by simp at hu⟩
theorem own2_nil (w : World) (L B : Nat) (ts t : TypeId) : Own2 w L B ts t (.slice none 0 0) ([] : List (List Int)).length [] :=
  ⟨rfl, fun k hk => by simp [Value.ownBlock] at hk, [], World.ownsRow_nil w L ts 1, fun i r hr => by simp at hr, fun i j u u' _ hu => by simp at hu⟩
theorem own_at {w : World} {L n c : Nat} {t : TypeId} {A : Option Addr} {xs : List Value} (h : w.ownsRow L t 1 (.slice A n c) n xs) (hn : 0 < n) : ∃ g, A = some ⟨g, 0, none⟩ ∧ L ≤ g ∧ g < w.heap.size := by
  rcases h.2 with ⟨_, h0⟩ | ⟨g, cap, cur, hv, hb, hg, _⟩
  · omega
  · injection hv with hA
    exact ⟨g, hA, hb, (Array.getElem?_eq_some_iff.1 hg).1⟩
theorem iv_set (r : List Int) (i : Nat) (z : Int) : iv (r.set i z) = (iv r).set i (.int .i64 z) := by simp [iv, List.map_set]
/-- a store into row i -/
theorem Own2.store {w : World} {L B n c i j : Nat} {ts t : TypeId} {A : Option Addr} {rs : List (List Int)} {r : List Int} (hne : ts ≠ t) (h : Own2 w L B ts t (.slice A n c) n rs) (hr : rs[i]? = some r) (hj : j < r.length) :
    ∃ g gi ci, A = some ⟨g, 0, none⟩ ∧ w.cell? ⟨g, i, none⟩ = some (.slice (some ⟨gi, 0, none⟩) r.length ci) ∧ (∀ k z, r[k]? = some z → w.cell? ⟨gi, k, none⟩ = some (.int .i64 z)) ∧ w.frozen? ⟨gi, j, none⟩ = false ∧ L ≤ gi ∧
      ∀ z : Int, Own2 (w.setCell ⟨gi, j, none⟩ (.int .i64 z)) L B ts t (.slice A n c) n (rs.set i (r.set j z)) := by
  obtain ⟨g, Ai, ci, e, c0, ho, hk, hput⟩ := h.where_ hne hr
  obtain ⟨gi, rfl, hgi, _⟩ := own_at ho (by omega)
  refine ⟨g, gi, ci, e, c0, fun k z hz => ?_, ho.frozenAt j, hgi, fun z => ?_⟩
  · rw [ho.cellAt k (by have := (List.getElem?_eq_some_iff.1 hz).1; omega), iv_get hz]
  · obtain ⟨h1, h2⟩ := ho.stored j (.int .i64 z)
    exact hput _ _ (by simp) h2 (by rw [iv_set]; exact h1)
theorem app2 {w : World} {ops : Array Oper} {rest : List Oper} {o : Oper} {a : Act} {Q : Exit → Act → World → Prop} (hgd : o.guard = none) (s x : Operand)
    (ho : o.op = .call { callee := .builtin .append, args := #[s, x], argTypes := #[26, 26] }) (L : Nat) (v : Value) (ps : List (List Int)) (r : List Int) (cs : Array Value) (hcs : cs = (iv r).toArray) (hs : a.eval s = v) (hown : Own2 w L w.heap.size 31 2 v ps.length ps)
    (hx : a.eval x = .slice (some ⟨w.heap.size + 1, 0, none⟩) 1 1) (hL : L ≤ w.heap.size) (hn : ps.length ≤ 1099511627776) (hr : r.length ≤ maxLen)
    (h : ∀ v' w', Own2 w' L w'.heap.size 31 2 v' (ps ++ [r]).length (ps ++ [r]) → Below L w w' → wpList Try.prog ops Q rest (a.put o.dst v') w') :
    wpList Try.prog ops Q (o :: rest) a ((w.alloc (.cells cs 2)).alloc (.cells #[.slice (some ⟨w.heap.size, 0, none⟩) r.length r.length] 31)) := by
  subst hcs
  obtain ⟨i0, hi, hz0, hz1, hz2⟩ := info_parts info27
  obtain ⟨hl, hB, vs, h1, h2, h3⟩ := hown
  have k1 : Blk ((w.alloc (.cells (iv r).toArray 2)).alloc (.cells #[.slice (some ⟨w.heap.size, 0, none⟩) r.length r.length] 31)) w.heap.size 2 (iv r).toArray := (Blk.new w 2 _).alloc _
  have b1 : Below L w ((w.alloc (.cells (iv r).toArray 2)).alloc (.cells #[.slice (some ⟨w.heap.size, 0, none⟩) r.length r.length] 31)) := ((Below.refl L w).alloc hL _).alloc (by simp; omega) _
  refine wpList_append_own _ hgd s x 26 ho L 31 i0 (.slice none 0 0) 1 24 Try.underlying26 hi hz0 hz1 hz2 rfl (by decide) v ps.length vs hs ((h1.alloc _).alloc _) ⟨w.heap.size + 1, 0, none⟩ 1 1 [.slice (some ⟨w.heap.size, 0, none⟩) r.length r.length] hx rfl ?_ ?_ ?_ ?_ ?_ ?_
  · intro j u hu
    match j, hu with
    | 0, hu =>
      simp at hu
      subst hu
      have := (Blk.new (w.alloc (.cells (iv r).toArray 2)) 31 #[.slice (some ⟨w.heap.size, 0, none⟩) r.length r.length]).cell 0
      rw [show (w.alloc (.cells (iv r).toArray 2)).heap.size = w.heap.size + 1 by simp] at this
      exact this
    | j + 1, hu => simp at hu
  · intro u hu
    simp at hu
    subst hu
    rfl
  · unfold maxLen; omega
  · omega
  · simp; omega
  · intro v' w' h4 h5 _
    have hsz : w.heap.size + 2 ≤ w'.heap.size := by have := h5.size; simp at this; omega
    refine h v' w' ⟨by simp, fun k hk => (h4.lt k hk).2, vs ++ [.slice (some ⟨w.heap.size, 0, none⟩) r.length r.length], by simpa using h4, fun i q hq => ?_, fun i j u u' hij hu hu' => ?_⟩ (b1.grown h5 (by simp; omega) fun k hk => (h1.lt k hk).1)
    · have hvl : vs.length = ps.length := by have := h1.1; omega
      by_cases hlt : i < ps.length
      · rw [List.getElem?_append_left hlt] at hq
        obtain ⟨u, e, hu, hk⟩ := h2 i q hq
        refine ⟨u, by rw [List.getElem?_append_left (by omega)]; exact e, ((hu.alloc _).alloc _).kept h5 ?_, fun k hk1 => ?_⟩
        · rcases rows_ne (by decide) h1 hu with g | g
          · rw [g]; cases u.ownBlock <;> simp
          · exact .inr (Ne.symm g)
        · have := hk k hk1; omega
      · have hqi : i = ps.length := by
          have := (List.getElem?_eq_some_iff.1 hq).1
          simp at this; omega
        subst hqi
        simp at hq
        subst hq
        refine ⟨_, by rw [List.getElem?_append_right (by omega), hvl]; simp, (own_of_blk k1 (iv_len r) hL hr).kept h5 ?_, fun k hk => by simp [Value.ownBlock] at hk; omega⟩
        refine .inr fun e => ?_
        have := (h1.lt w.heap.size e.symm).2
        omega
    · have hvl : vs.length = ps.length := by have := h1.1; omega
      have hi1 : i < ps.length + 1 := by have := (List.getElem?_eq_some_iff.1 hu).1; simp at this; omega
      have hj1 : j < ps.length + 1 := by have := (List.getElem?_eq_some_iff.1 hu').1; simp at this; omega
      have old : ∀ (i : Nat) (u : Value), i < ps.length → vs[i]? = some u → ∀ k, u.ownBlock = some k → k < w.heap.size := by
        intro i u hi hu k hk
        obtain ⟨u2, e, ho, hk2⟩ := h2 i ps[i] (List.getElem?_eq_getElem hi)
        rw [e] at hu
        injection hu with hu
        subst hu
        exact hk2 k hk
      by_cases a1 : i < ps.length
      · rw [List.getElem?_append_left (by omega)] at hu
        by_cases a2 : j < ps.length
        · rw [List.getElem?_append_left (by omega)] at hu'
          exact h3 i j u u' hij hu hu'
        · have : j = ps.length := by omega
          subst this
          rw [List.getElem?_append_right (by omega), hvl] at hu'
          simp at hu'
          subst hu'
          cases hb : u.ownBlock with
          | none => exact .inl rfl
          | some k =>
            refine .inr fun e => ?_
            simp [Value.ownBlock] at e
            have := old i u a1 hu k hb
            omega
      · have : i = ps.length := by omega
        subst this
        rw [List.getElem?_append_right (by omega), hvl] at hu
        simp at hu
        subst hu
        rw [List.getElem?_append_left (by omega)] at hu'
        refine .inr fun e => ?_
        simp only [Value.ownBlock] at e
        have := old j u' (by omega) hu' w.heap.size e.symm
        omega
end Go.Proofs.Ytoodlpgamlelaaa
