/- The law's marks in names and in entries. -/
import Derived.Test.YtednmmmnkcbpjaaMarkT
import Derived.Laws.OwnMore
import Derived.StillTailTactics
import Derived.Deep.DeepCutAuto
set_option linter.unusedVariables false
set_option linter.unusedSimpArgs false
namespace Go.Proofs.Ytednmmmnkcbpjaa
open Go.RowKit

/-- a row of the call's own of which the first m cells stand -/
def Put (w : World) (L : Nat) (t : TypeId) (k : Nat) (v : Value) (n : Nat) (xs : List Value) (m : Nat) : Prop := ∃ ys : List Value, w.ownsRow L t k v n ys ∧ ∀ j, j < m → ys[j]? = xs[j]?
section
variable {w w' : World} {L g n c k m : Nat} {t : TypeId} {xs : List Value} {A : Option Addr}
theorem Put.step {u : Value} (h : Put w L t k (.slice (some ⟨g, 0, none⟩) n c) n xs m) (hu : xs[m]? = some u) (hm : m < n * k) : Put (w.setCell ⟨g, m, none⟩ u) L t k (.slice (some ⟨g, 0, none⟩) n c) n xs (m + 1) := by
  obtain ⟨ys, hy, hc⟩ := h
  refine ⟨_, (hy.stored m u).1, fun j hj => ?_⟩
  have hl := hy.1
  by_cases e : m = j
  · subst e; rw [List.getElem?_set_self (by omega), hu]
  · rw [List.getElem?_set_ne e]; exact hc j (by omega)
theorem Put.done {v : Value} (h : Put w L t k v n xs (n * k)) (hx : xs.length = n * k) : w.ownsRow L t k v n xs := by
  obtain ⟨ys, hy, hc⟩ := h
  have : ys = xs := by
    apply List.ext_getElem?
    intro j
    have := hy.1
    by_cases hj : j < n * k
    · exact hc j hj
    · rw [List.getElem?_eq_none (by omega), List.getElem?_eq_none (by omega)]
  rw [← this]; exact hy
theorem Put.where_ (h : Put w L t k (.slice A n c) n xs m) (hn : 0 < n) : ∃ g, A = some ⟨g, 0, none⟩ ∧ L ≤ g ∧ g < w.heap.size := by
  obtain ⟨ys, hy, _⟩ := h
  rcases hy.2 with ⟨_, h0⟩ | ⟨g, cap, cur, hv, hb, hg, _⟩
  · omega
  · injection hv with hA
    exact ⟨g, hA, hb, (Array.getElem?_eq_some_iff.1 hg).1⟩
theorem Put.room {j : Nat} (h : Put w L t k (.slice (some ⟨g, 0, none⟩) n c) n xs m) (hj : j < n * k) : (∃ v, w.cell? ⟨g, j, none⟩ = some v) ∧ w.frozen? ⟨g, j, none⟩ = false := by
  obtain ⟨ys, hy, _⟩ := h
  have hl := hy.1
  exact ⟨⟨ys[j]'(by omega), by rw [hy.cellAt j hj, List.getElem?_eq_getElem (by omega)]⟩, hy.frozenAt j⟩
theorem own_grow {v : Value} (h : w.ownsRow L t k v n xs) (hb : Below w.heap.size w w') : w'.ownsRow L t k v n xs := by
  refine ⟨h.1, ?_⟩
  rcases h.2 with hn | ⟨g, cap, cur, hv, hL, hg, r⟩
  · exact .inl hn
  · exact .inr ⟨g, cap, cur, hv, hL, (hb.block g (Array.getElem?_eq_some_iff.1 hg).1).trans hg, r⟩
theorem Put.below {v : Value} (h : Put w L t k v n xs m) (hb : Below w.heap.size w w') : Put w' L t k v n xs m := by
  obtain ⟨ys, hy, hc⟩ := h
  exact ⟨ys, own_grow hy hb, hc⟩
theorem Put.grown (h : Put w L t k (.slice (some ⟨g, 0, none⟩) n c) n xs m) (j : Nat) (u : Value) : w.grownBy (w.setCell ⟨g, j, none⟩ u) (some g) := by
  obtain ⟨ys, hy, _⟩ := h
  exact (hy.stored j u).2
theorem grown_below {r : Option Nat} (h : Below w.heap.size w w') : w.grownBy w' r := ⟨h.os, h.tape, h.output, h.size, fun i hi _ => h.block i hi⟩
end
set_option maxHeartbeats 1000000 in
theorem markStringS_own (A : Option Addr) (c n L : Nat) (ys : List Value) (k : Nat) (w : World) (h : w.ownsRow L 9 1 (.slice A n c) n ys) (k0 : 0 < k) (k1 : k ≤ 1000) (hn : n ≤ 1048576) :
    Calls Try.prog 23 #[.slice A n c, .int .i64 k] w fun e w' => e = .returned (.int .i64 ((k + n : Nat) : Int)) ∧ w.grownBy w' (Value.ownBlock (.slice A n c)) := by
  have P0 : Hid (Put w L 9 1 (.slice A n c) n [] 0) := Lib.hid ⟨ys, h, fun j hj => absurd hj (by omega)⟩
  clear h
  go_enter Try.func23, Try.ntmps23
  go_wp2
  go_loopw [5, 1] (fun i kv wr => ∃ (j q : Nat), j ≤ n ∧ q = k + j ∧ i = .int .i64 j ∧ kv = .int .i64 q ∧ Hid (Put wr L 9 1 (.slice A n c) n [] 0) ∧ Hid (w.grownBy wr (Value.ownBlock (.slice A n c)))) (fun i _ _ => n - (intOf i).toNat)
  case atStart => exact ⟨0, k, Nat.zero_le _, rfl, rfl, rfl, P0, Lib.hid (World.grownBy.refl _ _)⟩
  case round =>
    obtain ⟨j, q, hj, hq, rfl, rfl, P, G⟩ := hrel
    have HQ := Lib.hid hq
    have qb : 0 < q ∧ q ≤ 2000000 := by omega
    clear hq
    by_cases hlt : j < n
    · obtain ⟨g, rfl, hL, hg⟩ := P.out.where_ (by omega)
      have MT := markText_any q wr (by omega) (by omega)
      go_wp2_with fail
      refine MT.mono ?_
      rintro r w2 ⟨rfl, hb2⟩
      have P2 := Lib.hid (P.out.below hb2)
      have G2 := Lib.hid (G.out.trans (grown_below hb2))
      clear MT hb2 P G
      obtain ⟨⟨v0, c0⟩, f0⟩ := P2.out.room (j := j) (by omega)
      have G3 := Lib.hid (G2.out.trans (P2.out.grown j (.string (mtL q))))
      have P3 : Hid (Put (w2.setCell ⟨g, j, none⟩ (.string (mtL q))) L 9 1 (.slice (some ⟨g, 0, none⟩) n c) n [] 0) := Lib.hid (by
        obtain ⟨zs, hz, _⟩ := P2.out
        exact ⟨_, (hz.stored j _).1, fun j hj => absurd hj (by omega)⟩)
      clear P2 G2
      go_wp2
      go_roundw
      case rel => exact ⟨j + 1, q + 1, by omega, by have := HQ.out; omega, by go_num, by go_num, P3, G3⟩
      case measure => simp [intOf]; omega
    · obtain rfl : j = n := by omega
      go_wp2
      go_ret
      exact ⟨ret_int (by rw [HQ.out]), G.out⟩
/-- the marks of n entries from k on -/
def mkE (k j : Nat) : EntryD := ⟨((k + 4 * j : Nat) : Int), mtL (k + 4 * j + 1), mtL (k + 4 * j + 2), ((k + 4 * j + 3 : Nat) : Int)⟩
def mkEs (k n : Nat) : List EntryD := (List.range n).map (mkE k)
theorem mkEs_get {k n j : Nat} (h : j < n) : (mkEs k n)[j]? = some (mkE k j) := by simp [mkEs, h]
theorem mkEs_len (k n : Nat) : (mkEs k n).length = n := by simp [mkEs]
theorem mkEs_at {k n j i q : Nat} {u : Value} (h : j < n) (hq : q = k + 4 * j) (hi : ([.int .i64 (q : Int), .string (mtL (q + 1)), .string (mtL (q + 2)), .int .i64 ((q + 3 : Nat) : Int)] : List Value)[i]? = some u) : ((mkEs k n).flatMap entryF)[j * 4 + i]? = some u := by
  subst hq
  exact flat_get entryF_len (mkEs k n) j i (mkE k j) u (mkEs_get h) hi
theorem markText_at (q d : Nat) (z : Int) (hz : z = ((q + d : Nat) : Int)) (q0 : 0 < q) (q1 : q + d ≤ 1000000000) (w : World) :
    Calls Try.prog 48 #[.int .i64 z] w fun e w' => e = .returned (.string (mtL (q + d))) ∧ Below w.heap.size w w' := by
  subst hz; exact markText_any (q + d) w (by omega) q1
set_option maxHeartbeats 2000000 in
theorem markEntryS_own (A : Option Addr) (c n L : Nat) (ys : List Value) (k : Nat) (w : World) (h : w.ownsRow L 64 4 (.slice A n c) n ys) (k0 : 0 < k) (k1 : k ≤ 1000) (hn : n ≤ 1048576) :
    Calls Try.prog 25 #[.slice A n c, .int .i64 k] w fun e w' => e = .returned (.int .i64 ((k + 4 * n : Nat) : Int)) ∧ w'.ownsRow L 64 4 (.slice A n c) n ((mkEs k n).flatMap entryF) ∧ w.grownBy w' (Value.ownBlock (.slice A n c)) := by
  have P0 : Hid (Put w L 64 4 (.slice A n c) n ((mkEs k n).flatMap entryF) (0 * 4)) := Lib.hid ⟨ys, h, fun j hj => absurd hj (by omega)⟩
  clear h
  go_enter Try.func25, Try.ntmps25
  go_wp2
  go_loopw [5, 1] (fun i kv wr => ∃ (j q : Nat), j ≤ n ∧ q = k + 4 * j ∧ i = .int .i64 j ∧ kv = .int .i64 q ∧ Hid (Put wr L 64 4 (.slice A n c) n ((mkEs k n).flatMap entryF) (j * 4)) ∧ Hid (w.grownBy wr (Value.ownBlock (.slice A n c)))) (fun i _ _ => n - (intOf i).toNat)
  case atStart => exact ⟨0, k, Nat.zero_le _, rfl, rfl, rfl, P0, Lib.hid (World.grownBy.refl _ _)⟩
  case round =>
    obtain ⟨j, q, hj, hq, rfl, rfl, P, G⟩ := hrel
    have HQ := Lib.hid hq
    have qb : 0 < q ∧ q ≤ 5000000 := by omega
    clear hq
    by_cases hlt : j < n
    · obtain ⟨g, rfl, hL, hg⟩ := P.out.where_ (by omega)
      have M1 := Lib.hid (markText_at q 1 ((q : Int) + 1) (by omega) (by omega) (by omega))
      have M2 := Lib.hid (markText_at q 2 ((q : Int) + 1 + 1) (by omega) (by omega) (by omega))
      have G1 := Lib.hid (G.out.trans (P.out.grown (j * 4) (.int .i64 (q : Int))))
      have P1 := Lib.hid (P.out.step (u := .int .i64 (q : Int)) (mkEs_at (i := 0) hlt HQ.out rfl) (by omega))
      obtain ⟨⟨v0, c0⟩, f0⟩ := P.out.room (j := j * 4) (by omega)
      clear P G
      go_upto_region 5 with fail
      generalize wr.setCell ⟨g, j * 4, none⟩ (.int .i64 (q : Int)) = w1 at G1 P1 ⊢
      clear c0 f0
      go_wp2_with fail
      refine (M1.out w1).mono ?_
      rintro r w2 ⟨rfl, hb2⟩
      have P2 := Lib.hid (P1.out.below hb2)
      have G2 := Lib.hid (G1.out.trans (grown_below hb2))
      clear hb2 P1 G1
      have G3 := Lib.hid (G2.out.trans (P2.out.grown (j * 4 + 1) (.string (mtL (q + 1)))))
      have P3 := Lib.hid (P2.out.step (u := .string (mtL (q + 1))) (mkEs_at (i := 1) hlt HQ.out rfl) (by omega))
      obtain ⟨⟨v1, c1⟩, f1⟩ := P2.out.room (j := j * 4 + 1) (by omega)
      clear P2 G2
      go_upto_region 7 with fail
      generalize w2.setCell ⟨g, j * 4 + 1, none⟩ (.string (mtL (q + 1))) = w3 at G3 P3 ⊢
      clear c1 f1
      go_wp2_with fail
      refine (M2.out w3).mono ?_
      rintro r w4 ⟨rfl, hb4⟩
      have P4 := Lib.hid (P3.out.below hb4)
      have G4 := Lib.hid (G3.out.trans (grown_below hb4))
      clear hb4 P3 G3
      have G5 := Lib.hid (G4.out.trans (P4.out.grown (j * 4 + 2) (.string (mtL (q + 2)))))
      have P5 := Lib.hid (P4.out.step (u := .string (mtL (q + 2))) (mkEs_at (i := 2) hlt HQ.out rfl) (by omega))
      obtain ⟨⟨v2, c2⟩, f2⟩ := P4.out.room (j := j * 4 + 2) (by omega)
      clear P4 G4
      go_upto_region 9 with fail
      generalize w4.setCell ⟨g, j * 4 + 2, none⟩ (.string (mtL (q + 2))) = w5 at G5 P5 ⊢
      clear c2 f2
      have G6 := Lib.hid (G5.out.trans (P5.out.grown (j * 4 + 3) (.int .i64 ((q + 3 : Nat) : Int))))
      have P6 := Lib.hid (P5.out.step (u := .int .i64 ((q + 3 : Nat) : Int)) (mkEs_at (i := 3) hlt HQ.out rfl) (by omega))
      obtain ⟨⟨v3, c3⟩, f3⟩ := P5.out.room (j := j * 4 + 3) (by omega)
      have e3 : ((q + 3 : Nat) : Int) = (q : Int) + 1 + 1 + 1 := by omega
      rw [e3] at G6 P6
      have P6 : Hid (Put (w5.setCell ⟨g, j * 4 + 3, none⟩ (.int .i64 ((q : Int) + 1 + 1 + 1))) L 64 4 (.slice (some ⟨g, 0, none⟩) n c) n ((mkEs k n).flatMap entryF) ((j + 1) * 4)) := Lib.hid (by
        rw [show (j + 1) * 4 = j * 4 + 3 + 1 by omega]; exact P6.out)
      clear P5 G5 e3
      go_wp2
      go_roundw
      case rel => exact ⟨j + 1, q + 4, by omega, by have := HQ.out; omega, by go_num, by go_num, P6, G6⟩
      case measure => simp [intOf]; omega
    · obtain rfl : j = n := by omega
      go_wp2
      go_ret
      exact ⟨ret_int (by rw [HQ.out]), P.out.done (by rw [flat_len entryF_len, mkEs_len]), G.out⟩
end Go.Proofs.Ytednmmmnkcbpjaa
