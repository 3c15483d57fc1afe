/- Slices of numbers: copies, equality, marks. -/
import Derived.Test.YtoodlpgamlelaaaBase
import Derived.Test.YtoodlpgamlelaaaLines
set_option linter.unusedVariables false
namespace Go.Proofs.Ytoodlpgamlelaaa
open Go.RowKit

theorem info64 : (Try.prog.info? 2).map (fun i => (i.zero, i.size, i.bytes)) = some (some (.int .i64 0), 1, 8) := by kernel_rfl
theorem fill64 {w : World} {g n k : Nat} {t : TypeId} {zs : List Int} {z : Int} (h : Fill w g t n k (iv zs)) (hz : zs[k]? = some z) (hk : k < n) : Fill (w.setCell ⟨g, k, none⟩ (.int .i64 z)) g t n (k + 1) (iv zs) := h.step (iv_get hz) hk
set_option maxHeartbeats 1000000 in
theorem eqInt64S_refl (A A' : Option Addr) (c c' n : Nat) (zs : List Int) (w : World) (h : Rd w w.heap.size 1 A n (iv zs)) (h' : Rd w w.heap.size 1 A' n (iv zs)) (hm : n ≤ 9223372036854775807) :
    Calls Try.prog 32 #[.slice A n c, .slice A' n c'] w fun e w' => e = .returned (.bool true) ∧ Below w.heap.size w w' := by
  have HN := Lib.hid h.len
  have H := Lib.hid h
  have H' := Lib.hid h'
  clear h h'
  go_enter Try.func32, Try.ntmps32
  go_wp2
  go_loopw [5] (fun i wr => ∃ k : Nat, k ≤ n ∧ i = .int .i64 k ∧ Hid (Below w.heap.size w wr)) (fun i _ => n - (intOf i).toNat)
  case atStart => exact ⟨0, Nat.zero_le _, rfl, Lib.hid (Below.refl _ _)⟩
  case round =>
    obtain ⟨k, hk, rfl, hb⟩ := hrel
    by_cases hlt : k < n
    · obtain ⟨z, hz, hzm⟩ := getD_of (l := zs) (i := k) (by rw [HN.out]; exact hlt)
      obtain ⟨b, o, rfl, hbB, hc⟩ := (H.out.below hb.out).ints (by omega)
      obtain ⟨b', o', rfl, hbB', hc'⟩ := (H'.out.below hb.out).ints (by omega)
      have hsz := hb.out.size
      have c0 : ∀ u : Bel wr.heap.size wr, u.val.cell? ⟨b, o + k, none⟩ = some (.int .i64 z) := bel_at (hc k z hz) (by omega)
      have d0 : ∀ u : Bel wr.heap.size wr, u.val.cell? ⟨b', o' + k, none⟩ = some (.int .i64 z) := bel_at (hc' k z hz) (by omega)
      clear hc hc' hz hzm
      have hk0 : (0 : Int) ≤ k := by omega
      have hki : (k : Int) < n := by omega
      have tn : (k : Int).toNat = k := by simp
      go_wp2_with fail
      (refine wp_region_bel wr.heap.size wr (Below.refl _ _) (by kernel_rfl) (by kernel_rfl) ?_; (repeat (go_big_quiet_step ((first | fail)))); refine wpQuiet_nil ?_; rintro w1 ⟨⟨_, hb1⟩, rfl⟩)
      clear c0 d0 tn
      have b1 := Lib.hid (below_more hb.out hb1 (Nat.le_refl _))
      go_wp2
      go_roundw
      case rel => exact ⟨k + 1, by omega, by go_num, b1⟩
      case measure => simp [intOf]; omega
    · go_wp2
      go_ret
      exact ⟨rfl, hb.out⟩
def MarkAt (w : World) (L : Nat) (t : TypeId) (v : Value) (n : Nat) (k : Int) (i : Nat) : Prop := ∃ ys : List Value, w.ownsRow L t 1 v n ys ∧ ∀ j, j < i → ys[j]? = some (.int .i64 (k + j))
theorem MarkAt.step {w : World} {L g n c i : Nat} {t : TypeId} {k : Int} (h : MarkAt w L t (.slice (some ⟨g, 0, none⟩) n c) n k i) (hi : i < n) : MarkAt (w.setCell ⟨g, i, none⟩ (.int .i64 (k + i))) L t (.slice (some ⟨g, 0, none⟩) n c) n k (i + 1) := by
  obtain ⟨ys, hy, hc⟩ := h
  refine ⟨_, (hy.stored i _).1, fun j hj => ?_⟩
  have hl := hy.1
  by_cases e : i = j
  · subst e; rw [List.getElem?_set_self (by omega)]
  · rw [List.getElem?_set_ne e]; exact hc j (by omega)
theorem MarkAt.done {w : World} {L n : Nat} {t : TypeId} {v : Value} {k : Int} (h : MarkAt w L t v n k n) : w.ownsRow L t 1 v n (iv (cnt k n)) := by
  obtain ⟨ys, hy, hc⟩ := h
  rw [← cnt_all (by have := hy.1; omega) hc]; exact hy
theorem MarkAt.where_ {w : World} {L n c i : Nat} {A : Option Addr} {t : TypeId} {k : Int} (h : MarkAt w L t (.slice A n c) n k i) (hi : i < n) : ∃ g, A = some ⟨g, 0, none⟩ ∧ (∃ v, w.cell? ⟨g, i, none⟩ = some v) ∧ w.frozen? ⟨g, i, none⟩ = false ∧ L ≤ g ∧ g < w.heap.size := by
  obtain ⟨ys, hy, hc⟩ := h
  have hl := hy.1
  rcases hy.2 with ⟨_, h0⟩ | ⟨g, cap, cur, hv, hb, hg, _⟩
  · omega
  · injection hv with hA hn hcap
    subst hA
    subst hcap
    refine ⟨g, rfl, ⟨ys[i]'(by omega), ?_⟩, hy.frozenAt i, hb, (Array.getElem?_eq_some_iff.1 hg).1⟩
    rw [hy.cellAt i (by omega), List.getElem?_eq_getElem (by omega)]
set_option maxHeartbeats 1000000 in
theorem markInt64S_own (A : Option Addr) (c n L : Nat) (xs : List Value) (k : Int) (w : World) (h : w.ownsRow L 2 1 (.slice A n c) n xs) (k0 : 0 ≤ k) (k1 : k + n ≤ 9223372036854775807) :
    Calls Try.prog 35 #[.slice A n c, .int .i64 k] w fun e w' => e = .returned (.int .i64 (k + n)) ∧ w'.ownsRow L 2 1 (.slice A n c) n (iv (cnt k n)) ∧ w.grownBy w' (Value.ownBlock (.slice A n c)) := by
  have M0 : Hid (MarkAt w L 2 (.slice A n c) n k 0) := Lib.hid ⟨xs, h, fun j hj => absurd hj (by omega)⟩
  clear h
  go_enter Try.func35, Try.ntmps35
  go_wp2
  go_loopw [1, 5] (fun a i wr => ∃ j : Nat, j ≤ n ∧ a = .int .i64 (k + j) ∧ i = .int .i64 j ∧ Hid (MarkAt wr L 2 (.slice A n c) n k j) ∧ Hid (w.grownBy wr (Value.ownBlock (.slice A n c)))) (fun _ i _ => n - (intOf i).toNat)
  case atStart => exact ⟨0, Nat.zero_le _, by simp, rfl, M0, Lib.hid (World.grownBy.refl _ _)⟩
  case round =>
    obtain ⟨j, hj, rfl, rfl, M, hg⟩ := hrel
    by_cases hlt : j < n
    · obtain ⟨g, rfl, ⟨v0, c0⟩, f0, _, _⟩ := M.out.where_ hlt
      have M1 := Lib.hid (M.out.step hlt)
      have g1 : Hid (w.grownBy (wr.setCell ⟨g, j, none⟩ (.int .i64 (k + j))) (some g)) := by
        obtain ⟨ys, hy, _⟩ := M.out
        have q := (hy.stored j (.int .i64 (k + j))).2
        have p := hg.out
        exact Lib.hid ⟨q.os.trans p.os, q.tape.trans p.tape, q.output.trans p.output, Nat.le_trans p.size q.size, fun i hi hne => (q.block i (Nat.lt_of_lt_of_le hi p.size) hne).trans (p.block i hi hne)⟩
      clear M hg
      go_wp2
      go_roundw
      case rel => exact ⟨j + 1, by omega, by go_num, by go_num, M1, g1⟩
      case measure => simp [intOf]; omega
    · obtain rfl : j = n := by omega
      go_wp2
      go_ret
      exact ⟨rfl, M.out.done, hg.out⟩
set_option maxHeartbeats 1000000 in
theorem heldInt64S_any (A : Option Addr) (c n : Nat) (k : Int) (w : World) (h : Rd w w.heap.size 1 A n (iv (cnt k n))) (k0 : 0 ≤ k) (k1 : k + n ≤ 9223372036854775807) :
    Calls Try.prog 36 #[.slice A n c, .int .i64 k] w fun e w' => e = .returned (.int .i64 (k + n)) ∧ w = w' := by
  have H := Lib.hid h
  clear h
  go_enter Try.func36, Try.ntmps36
  go_wp2
  go_loop [1, 5] (fun a i => ∃ j : Nat, j ≤ n ∧ a = .int .i64 (k + j) ∧ i = .int .i64 j) (fun _ i => n - (intOf i).toNat)
  case atStart => exact ⟨0, Nat.zero_le _, by simp, rfl⟩
  case round =>
    obtain ⟨j, hj, rfl, rfl⟩ := hrel
    by_cases hlt : j < n
    · obtain ⟨b, o, rfl, hbB, hc⟩ := H.out.ints (by omega)
      have c0 : w.cell? ⟨b, o + j, none⟩ = some (.int .i64 (k + j)) := hc j _ (cnt_get hlt)
      clear hc
      go_wp2
      go_round
      case rel => exact ⟨j + 1, by omega, by go_num, by go_num⟩
      case measure => simp [intOf]; omega
    · obtain rfl : j = n := by omega
      go_wp2
      go_ret
      exact ⟨rfl, rfl⟩
end Go.Proofs.Ytoodlpgamlelaaa
