/- The law's marks in planks. -/
import Derived.Test.YtemkggecempmgaaPlank
import Derived.Test.YtemkggecempmgaaLines
import Derived.Laws.BytesArg
import Derived.Laws.OwnMore
set_option linter.unusedVariables false
set_option linter.unusedSimpArgs false
namespace Go.Proofs.Ytemkggecempmgaa
open Go.RowKit

def digB (k : Nat) : ByteArray := Go.strOfNums [48 + (k : Int) % 10]
theorem digB_size (k : Nat) : (digB k).size = 1 := rfl
def mtTo (k : Nat) (out : ByteArray) : ByteArray := if h : k = 0 then out else mtTo (k / 10) (digB k ++ out)
termination_by k
decreasing_by omega
def mtL (k : Nat) : ByteArray := ⟨#[109]⟩ ++ mtTo k ByteArray.empty
set_option maxHeartbeats 1000000 in
theorem markText_any (k : Nat) (w : World) (k0 : 0 < k) (k1 : k ≤ 1000000000) :
    Calls Try.prog 78 #[.int .i64 k] w fun e w' => e = .returned (.string (mtL k)) ∧ Below w.heap.size w w' := by
  have W0 := Lib.hid (Below.refl w.heap.size w)
  go_enter Try.func78, Try.ntmps78
  go_wp2
  go_loopw [0, 3] (fun i s wr => ∃ (j : Nat) (out : ByteArray), i = .int .i64 j ∧ s = .string out ∧ out.size + j ≤ k ∧ Hid (mtTo j out = mtTo k ByteArray.empty) ∧ Hid (Below w.heap.size w wr)) (fun i _ _ => (intOf i).toNat)
  case atStart => exact ⟨k, ByteArray.empty, rfl, rfl, by simp, Lib.hid rfl, W0⟩
  case round =>
    obtain ⟨j, out, rfl, rfl, hs, E, hb⟩ := hrel
    by_cases hlt : 0 < j
    · have b1 := Lib.hid (hb.out.alloc hb.out.size (.cells #[.int .u8 (48 + (j : Int) % 10)] 5))
      have hcv : (convert 22 9 (.slice (some ⟨wr.heap.size, 0, none⟩) 1 1)).run Try.prog (wr.alloc (.cells #[.int .u8 (48 + (j : Int) % 10)] 5)) = .ok (.string (digB j)) (wr.alloc (.cells #[.int .u8 (48 + (j : Int) % 10)] 5)) :=
        Go.run_convert_bytes_arg _ _ _ Try.underlying22 Try.underlying5 _ _ 1 _ [48 + (j : Int) % 10] rfl (fun i hi => by
          obtain rfl : i = 0 := by omega
          exact (Blk.new wr 5 #[.int .u8 (48 + (j : Int) % 10)]).cell 0) _ Try.underlying9
      have E1 : Hid (mtTo (j / 10) (digB j ++ out) = mtTo k ByteArray.empty) := Lib.hid (by have h := E.out; rw [mtTo, dif_neg (by omega)] at h; exact h)
      have sz : (digB j ++ out).size = 1 + out.size := by rw [ByteArray.size_append, digB_size]
      have sz2 := digB_size j
      go_wp2
      go_roundw
      case rel => exact ⟨j / 10, digB j ++ out, by go_num, rfl, by omega, E1, b1⟩
      case measure => simp [intOf]; omega
    · obtain rfl : j = 0 := by omega
      have E1 : Hid (out = mtTo k ByteArray.empty) := Lib.hid (by have h := E.out; rw [mtTo] at h; simpa using h)
      go_wp2
      go_ret
      exact ⟨by rw [E1.out]; rfl, hb.out⟩
section
variable {w w' : World} {L n k : Nat} {t : TypeId} {xs : List Value}
theorem own_grow {v : Value} (h : w.ownsRow L t k v n xs) (hb : Below w.heap.size w w') : w'.ownsRow L t k v n xs := by
  refine ⟨h.1, ?_⟩
  rcases h.2 with hn | ⟨g, cap, cur, hv, hL, hg, r⟩
  · exact .inl hn
  · exact .inr ⟨g, cap, cur, hv, hL, (hb.block g (Array.getElem?_eq_some_iff.1 hg).1).trans hg, r⟩
theorem grown_below {r : Option Nat} (h : Below w.heap.size w w') : w.grownBy w' r := ⟨h.os, h.tape, h.output, h.size, fun i hi _ => h.block i hi⟩
end
/-- a row of the call's own, whatever it holds -/
def OwnA (w : World) (L : Nat) (t : TypeId) (k : Nat) (v : Value) (n : Nat) : Prop := ∃ ys : List Value, w.ownsRow L t k v n ys
theorem OwnA.below {w w' : World} {L n k : Nat} {t : TypeId} {v : Value} (h : OwnA w L t k v n) (hb : Below w.heap.size w w') : OwnA w' L t k v n := by
  obtain ⟨ys, hy⟩ := h
  exact ⟨ys, own_grow hy hb⟩
theorem OwnA.where_ {w : World} {L n k c : Nat} {t : TypeId} {A : Option Addr} (h : OwnA w L t k (.slice A n c) n) (hn : 0 < n) : ∃ g, A = some ⟨g, 0, none⟩ ∧ L ≤ g ∧ g < w.heap.size := by
  obtain ⟨ys, hy⟩ := h
  rcases hy.2 with ⟨_, h0⟩ | ⟨g, cap, cur, hv, hb, hg, _⟩
  · omega
  · injection hv with hA
    exact ⟨g, hA, hb, (Array.getElem?_eq_some_iff.1 hg).1⟩
theorem OwnA.room {w : World} {L n k c g j : Nat} {t : TypeId} (h : OwnA w L t k (.slice (some ⟨g, 0, none⟩) n c) n) (hj : j < n * k) : (∃ v, w.cell? ⟨g, j, none⟩ = some v) ∧ w.frozen? ⟨g, j, none⟩ = false := by
  obtain ⟨ys, hy⟩ := h
  have hl := hy.1
  exact ⟨⟨ys[j]'(by omega), by rw [hy.cellAt j hj, List.getElem?_eq_getElem (by omega)]⟩, hy.frozenAt j⟩
theorem OwnA.put {w : World} {L n k c g : Nat} {t : TypeId} (h : OwnA w L t k (.slice (some ⟨g, 0, none⟩) n c) n) (j : Nat) (u : Value) : OwnA (w.setCell ⟨g, j, none⟩ u) L t k (.slice (some ⟨g, 0, none⟩) n c) n ∧ w.grownBy (w.setCell ⟨g, j, none⟩ u) (some g) := by
  obtain ⟨ys, hy⟩ := h
  exact ⟨⟨_, (hy.stored j u).1⟩, (hy.stored j u).2⟩
set_option maxHeartbeats 2000000 in
theorem markPlankS_own (A : Option Addr) (c n L : Nat) (ys : List Value) (k : Nat) (w : World) (h : w.ownsRow L 61 6 (.slice A n c) n ys) (k0 : 0 < k) (k1 : k ≤ 1000) (hn : n ≤ 1048576) :
    Calls Try.prog 43 #[.slice A n c, .int .i64 k] w fun e w' => e = .returned (.int .i64 ((k + 6 * n : Nat) : Int)) ∧ w.grownBy w' (Value.ownBlock (.slice A n c)) := by
  have P0 : Hid (OwnA w L 61 6 (.slice A n c) n) := Lib.hid ⟨ys, h⟩
  clear h
  go_enter Try.func43, Try.ntmps43
  go_wp2
  go_loopw [5, 1] (fun i kv wr => ∃ (j q : Nat), j ≤ n ∧ q = k + 6 * j ∧ i = .int .i64 j ∧ kv = .int .i64 q ∧ Hid (OwnA wr L 61 6 (.slice A n c) n) ∧ Hid (w.grownBy wr (Value.ownBlock (.slice A n c)))) (fun i _ _ => n - (intOf i).toNat)
  case atStart => exact ⟨0, k, Nat.zero_le _, rfl, rfl, rfl, P0, Lib.hid (World.grownBy.refl _ _)⟩
  case round =>
    obtain ⟨j, q, hj, hq, rfl, rfl, P, G⟩ := hrel
    have HQ := Lib.hid hq
    have qb : 0 < q ∧ q ≤ 7000000 := by omega
    clear hq
    by_cases hlt : j < n
    · obtain ⟨g, rfl, hL, hg⟩ := P.out.where_ (by omega)
      have MT := markText_any q wr (by omega) (by omega)
      go_wp2_with fail
      refine MT.mono ?_
      rintro r w2 ⟨rfl, hb2⟩
      have P2 := P.out.below hb2
      have G2 := G.out.trans (grown_below hb2)
      clear MT hb2 P G
      obtain ⟨⟨v0, c0⟩, f0⟩ := P2.room (j := j * 6) (by omega)
      obtain ⟨⟨v1, c1⟩, f1⟩ := P2.room (j := j * 6 + 1) (by omega)
      obtain ⟨⟨v2, c2⟩, f2⟩ := P2.room (j := j * 6 + 2) (by omega)
      obtain ⟨⟨v3, c3⟩, f3⟩ := P2.room (j := j * 6 + 3) (by omega)
      obtain ⟨⟨v4, c4⟩, f4⟩ := P2.room (j := j * 6 + 4) (by omega)
      obtain ⟨⟨v5, c5⟩, f5⟩ := P2.room (j := j * 6 + 5) (by omega)
      have p1 := P2.put (j * 6) (.string (mtL q))
      have p2 := p1.1.put (j * 6 + 1) (.int .i64 ((q : Int) + 1))
      have p3 := p2.1.put (j * 6 + 2) (.int .i64 ((q : Int) + 2))
      have p4 := p3.1.put (j * 6 + 3) (.int .i64 ((q : Int) + 3))
      have p5 := p4.1.put (j * 6 + 4) (.int .i64 ((q : Int) + 4))
      have p6 := p5.1.put (j * 6 + 5) (.int .i64 ((q : Int) + 5))
      have P6 := Lib.hid p6.1
      have G6 := Lib.hid (((((((G2.trans p1.2).trans p2.2).trans p3.2).trans p4.2).trans p5.2).trans p6.2))
      have e1 : (q : Int) + 1 + 1 = (q : Int) + 2 := by omega
      have e2 : (q : Int) + 2 + 1 = (q : Int) + 3 := by omega
      have e3 : (q : Int) + 3 + 1 = (q : Int) + 4 := by omega
      have e4 : (q : Int) + 4 + 1 = (q : Int) + 5 := by omega
      have e5 : (q : Int) + 5 + 1 = (q : Int) + 6 := by omega
      clear P2 G2 p1 p2 p3 p4 p5 p6
      go_wp2
      go_roundw
      case rel => exact ⟨j + 1, q + 6, by omega, by have := HQ.out; omega, by go_num, by go_num, P6, G6⟩
      case measure => simp [intOf]; omega
    · obtain rfl : j = n := by omega
      go_wp2
      go_ret
      exact ⟨ret_int (by rw [HQ.out]), G.out⟩
end Go.Proofs.Ytemkggecempmgaa
