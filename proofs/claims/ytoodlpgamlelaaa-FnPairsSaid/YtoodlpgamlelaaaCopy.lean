/- Copies of rows and of plans; filling. -/
import Derived.Test.YtoodlpgamlelaaaOwn2
import Derived.Test.YtoodlpgamlelaaaLines
import Derived.OwnWalk
import Derived.Test.YtoodlpgamlelaaaApp
set_option linter.unusedVariables false
namespace Go.Proofs.Ytoodlpgamlelaaa
open Go.RowKit

theorem own_less {w : World} {L L' n : Nat} {t : TypeId} {v : Value} {xs : List Value} (h : w.ownsRow L t 1 v n xs) (hL : L' ≤ L) : w.ownsRow L' t 1 v n xs := by
  refine ⟨h.1, ?_⟩
  rcases h.2 with hn | ⟨g, cap, cur, hv, hb, rest⟩
  · exact .inl hn
  · exact .inr ⟨g, cap, cur, hv, by omega, rest⟩
set_option maxRecDepth 100000 in
/-- append(v, zs...) to an empty row of the call's own -/
theorem appN {w : World} {ops : Array Oper} {rest : List Oper} {o : Oper} {a : Act} {Q : Exit → Act → World → Prop} (hgd : o.guard = none) (s x : Operand)
    (ho : o.op = .call { callee := .builtin .append, args := #[s, x], argTypes := #[31, 31] }) (L : Nat) (v : Value) (b ofs n c B : Nat) (zs : List Int) (hs : a.eval s = v) (hown : w.ownsRow L 2 1 v 0 [])
    (hx : a.eval x = .slice (some ⟨b, ofs, none⟩) n c) (hr : Rd w B 1 (some ⟨b, ofs, none⟩) n (iv zs)) (hL : L ≤ w.heap.size) (hn : n ≤ 1099511627776)
    (h : ∀ v' w', w'.ownsRow L 2 1 v' n (iv zs) → w.grownBy w' v.ownBlock → wpList Try.prog ops Q rest (a.put o.dst v') w') :
    wpList Try.prog ops Q (o :: rest) a w := by
  obtain ⟨i0, hi, hz0, hz1, hz2⟩ := info_parts info64
  refine wpList_append_own _ hgd s x 31 ho L 2 i0 (.int .i64 0) 1 8 Try.underlying31 hi hz0 hz1 hz2 rfl (by decide) v 0 [] hs hown ⟨b, ofs, none⟩ n c (iv zs) hx hr.1 ?_ (iv_one zs) ?_ ?_ hL ?_
  · intro j u hu
    have hj : 0 < n := by
      have := (List.getElem?_eq_some_iff.1 hu).1
      have := hr.1
      omega
    obtain ⟨b', o', e, hlt, hc⟩ := hr.2 hj
    injection e with e
    injection e with e1 e2
    subst e1 e2
    rw [show (⟨b, ofs, none⟩ : Addr).add j = ⟨b, ofs + j, none⟩ by unfold Addr.add; split <;> simp_all]
    exact hc j u hu
  · unfold maxLen; omega
  · omega
  · intro v' w' h1 h2 _
    exact h v' w' (by simpa using h1) h2
theorem make0_run {P : Program} {t e : TypeId} {z : Value} {k bytes : Nat} (ht : P.underlying t = some (.slice e)) (hi : (P.info? e).map (fun i => (i.zero, i.size, i.bytes)) = some (some z, k, bytes)) (n : Nat) (hb : bytes * n ≤ 281474976710656) (hm : n ≤ maxLen) :
    ∃ cs : Array Value, cs.size = n * k ∧ ∀ w : World, (Instr.makeSlice t (.int .i64 0) (.int .i64 (n : Int))).run P w = .ok (.slice (some ⟨w.heap.size, 0, none⟩) 0 n) (w.alloc (.cells cs e)) := by
  obtain ⟨i, hi2, hz, hs, hby⟩ := info_parts hi
  subst hs hby
  unfold maxLen at hm
  refine ⟨madeCells z.cells (n * i.size), size_madeCells _ _, fun w => ?_⟩
  have hb' : (i.bytes : Int) * (n : Int) ≤ 281474976710656 := by
    have h : ((i.bytes * n : Nat) : Int) ≤ 281474976710656 := by omega
    rwa [Int.natCast_mul] at h
  have := run_make (P := P) w t e i z ht hi2 hz .i64 .i64 0 n (by omega) (by omega) hb' (by omega)
  simpa using this
def RetV (t : TypeId) (w : World) (n : Nat) (zs : List Int) (e : Ending) (w' : World) : Prop := ∃ v, e = .returned v ∧ w'.ownsRow w.heap.size t 1 v n (iv zs) ∧ Below w.heap.size w w'
set_option maxHeartbeats 1000000 in
theorem l00Own_any (b o c n : Nat) (zs : List Int) (w : World) (h : Rd w w.heap.size 1 (some ⟨b, o, none⟩) n (iv zs)) (hn : n ≤ 1048576) :
    Calls Try.prog 30 #[.slice (some ⟨b, o, none⟩) n c] w (RetV 2 w n zs) := by
  have O0 := Lib.hid (own_empty w 2)
  have b0 := Lib.hid ((Below.refl w.heap.size w).alloc (Nat.le_refl _) (.cells #[] 2))
  have H := Lib.hid (h.below b0.out)
  have hsz : w.heap.size ≤ (w.alloc (.cells #[] 2)).heap.size := b0.out.size
  clear h
  go_enter Try.func30, Try.ntmps30
  go_wp2_with (at_builtin; refine appN rfl (.tmp 3) (.tmp 4) rfl w.heap.size (.slice (some ⟨w.heap.size, 0, none⟩) 0 0) b o n c w.heap.size zs rfl O0.out rfl H.out hsz (by omega) ?_; intro v1 w1 ho1 hg1)
  have b1 : Below w.heap.size w w1 := b0.out.grown hg1 hsz (fun k hk => (O0.out.lt k hk).1)
  go_ret
  exact ⟨v1, rfl, ho1, b1⟩
/-- append of a row that is there already, newer than the others -/
theorem app2u {w : World} {ops : Array Oper} {rest : List Oper} {o : Oper} {a : Act} {Q : Exit → Act → World → Prop} (hgd : o.guard = none) (s x : Operand)
    (ho : o.op = .call { callee := .builtin .append, args := #[s, x], argTypes := #[26, 26] }) (L B : Nat) (v u : Value) (ps : List (List Int)) (r : List Int) (hs : a.eval s = v) (hown : Own2 w L B 31 2 v ps.length ps)
    (hu : w.ownsRow L 2 1 u r.length (iv r)) (hub : ∀ k, u.ownBlock = some k → B ≤ k) (hBw : B ≤ w.heap.size)
    (hx : a.eval x = .slice (some ⟨w.heap.size, 0, none⟩) 1 1) (hL : L ≤ w.heap.size) (hn : ps.length ≤ 1099511627776)
    (h : ∀ v' w', Own2 w' L w'.heap.size 31 2 v' (ps ++ [r]).length (ps ++ [r]) → Below L w w' → wpList Try.prog ops Q rest (a.put o.dst v') w') :
    wpList Try.prog ops Q (o :: rest) a (w.alloc (.cells #[u] 31)) := by
  obtain ⟨i0, hi, hz0, hz1, hz2⟩ := info_parts info27
  obtain ⟨hl, hB, vs, h1, h2, h3⟩ := hown
  have b1 : Below L w (w.alloc (.cells #[u] 31)) := (Below.refl L w).alloc hL _
  obtain ⟨Au, cu, rfl⟩ := own_val hu
  refine wpList_append_own _ hgd s x 26 ho L 31 i0 (.slice none 0 0) 1 24 Try.underlying26 hi hz0 hz1 hz2 rfl (by decide) v ps.length vs hs (h1.alloc _) ⟨w.heap.size, 0, none⟩ 1 1 [.slice Au r.length cu] hx rfl ?_ ?_ ?_ ?_ ?_ ?_
  · intro j u hu
    match j, hu with
    | 0, hu =>
      simp at hu
      subst hu
      exact (Blk.new w 31 #[.slice Au r.length cu]).cell 0
    | j + 1, hu => simp at hu
  · intro u hu
    simp at hu
    subst hu
    rfl
  · unfold maxLen; omega
  · omega
  · simp; omega
  · intro v' w' h4 h5 _
    have hsz : w.heap.size + 1 ≤ w'.heap.size := by have := h5.size; simp at this; omega
    have hvl : vs.length = ps.length := by have := h1.1; omega
    have keep : ∀ {m : Nat} {q : Value} {ys : List Value}, w.ownsRow L 2 1 q m ys → w'.ownsRow L 2 1 q m ys := by
      intro m q ys hq
      refine (hq.alloc _).kept h5 ?_
      rcases rows_ne (by decide) h1 hq with g | g
      · rw [g]; cases q.ownBlock <;> simp
      · exact .inr (Ne.symm g)
    have old : ∀ (i : Nat) (u : Value), i < ps.length → vs[i]? = some u → ∀ k, u.ownBlock = some k → k < B := by
      intro i u hi hu k hk
      obtain ⟨u2, e, ho, hk2⟩ := h2 i ps[i] (List.getElem?_eq_getElem hi)
      rw [e] at hu
      injection hu with hu
      subst hu
      exact hk2 k hk
    refine h v' w' ⟨by simp, fun k hk => (h4.lt k hk).2, vs ++ [.slice Au r.length cu], by simpa using h4, fun i q hq => ?_, fun i j u u' hij hu1 hu2 => ?_⟩ (b1.grown h5 (by simp; omega) fun k hk => (h1.lt k hk).1)
    · by_cases hlt : i < ps.length
      · rw [List.getElem?_append_left hlt] at hq
        obtain ⟨u, e, hu, hk⟩ := h2 i q hq
        exact ⟨u, by rw [List.getElem?_append_left (by omega)]; exact e, keep hu, fun k hk1 => by have := hk k hk1; omega⟩
      · have hqi : i = ps.length := by
          have := (List.getElem?_eq_some_iff.1 hq).1
          simp at this; omega
        subst hqi
        simp at hq
        subst hq
        exact ⟨_, by rw [List.getElem?_append_right (by omega), hvl]; simp, keep hu, fun k hk => by have := (hu.lt k hk).2; omega⟩
    · have hi1 : i < ps.length + 1 := by have := (List.getElem?_eq_some_iff.1 hu1).1; simp at this; omega
      have hj1 : j < ps.length + 1 := by have := (List.getElem?_eq_some_iff.1 hu2).1; simp at this; omega
      by_cases a1 : i < ps.length
      · rw [List.getElem?_append_left (by omega)] at hu1
        by_cases a2 : j < ps.length
        · rw [List.getElem?_append_left (by omega)] at hu2
          exact h3 i j u u' hij hu1 hu2
        · have : j = ps.length := by omega
          subst this
          rw [List.getElem?_append_right (by omega), hvl] at hu2
          simp at hu2
          subst hu2
          cases hb : u.ownBlock with
          | none => exact .inl rfl
          | some k =>
            refine .inr fun e => ?_
            have a3 := old i u a1 hu1 k hb
            have a4 := hub k e.symm
            omega
      · have : i = ps.length := by omega
        subst this
        rw [List.getElem?_append_right (by omega), hvl] at hu1
        simp at hu1
        subst hu1
        rw [List.getElem?_append_left (by omega)] at hu2
        cases hb : Value.ownBlock (.slice Au r.length cu) with
        | none => exact .inl rfl
        | some k =>
          refine .inr fun e => ?_
          have a3 := old j u' (by omega) hu2 k e.symm
          have a4 := hub k hb
          omega
def RetR (ts t : TypeId) (w : World) (rs : List (List Int)) (e : Ending) (w' : World) : Prop := ∃ v, e = .returned v ∧ Own2 w' w.heap.size w'.heap.size ts t v rs.length rs ∧ Below w.heap.size w w'
theorem ret_SS {ts t : TypeId} {w w' : World} {v : Value} {rs rs' : List (List Int)} {code code' : Int} (hz : rs' = rs) (hc : code' = code) (ho : Own2 w' w.heap.size w'.heap.size ts t v rs.length rs) (hb : Below w.heap.size w w') : RetSS ts t w rs' code' (.returned (.tuple #[v, .int .i64 code])) w' := by
  subst hz hc; exact ⟨v, rfl, ho, hb⟩
theorem take_next {rs : List (List Int)} {k : Nat} {r : List Int} (h : rs[k]? = some r) : rs.take (k + 1) = rs.take k ++ [r] := by
  obtain ⟨hk, rfl⟩ := List.getElem?_eq_some_iff.1 h
  rw [List.take_succ_eq_append_getElem hk]
def fillTo (r : List Int) (d : Nat) (wk : Int) : Nat → List Int
  | 0 => r
  | j + 1 => (fillTo r d wk j).set (d + j) wk
theorem fillTo_len (r : List Int) (d : Nat) (wk : Int) (j : Nat) : (fillTo r d wk j).length = r.length := by
  induction j with
  | zero => rfl
  | succ j ih => rw [fillTo, List.length_set, ih]
end Go.Proofs.Ytoodlpgamlelaaa
