/- Set-ups of strings: tensions, spreads, the state of a search. -/
import Derived.Test.YtemkggecempmgaaSetP
import Derived.Test.YtemkggecempmgaaApp
set_option linter.unusedVariables false
namespace Go.Proofs.Ytemkggecempmgaa
open Go.RowKit

theorem distance_any (a b : Int) (w : World) (a0 : 0 ≤ a) (a1 : a ≤ 1000000000000) (b0 : 0 ≤ b) (b1 : b ≤ 1000000000000) :
    Calls Try.prog 101 #[.int .i64 a, .int .i64 b] w fun e w' => e = .returned (.int .i64 (max (a - b) (b - a))) ∧ w = w' := by
  by_cases h : a - b < b - a
  · rw [show max (a - b) (b - a) = b - a by omega]
    go_enter Try.func101, Try.ntmps101
    go_wp2
    go_ret
    exact ⟨rfl, rfl⟩
  · rw [show max (a - b) (b - a) = a - b by omega]
    go_enter Try.func101, Try.ntmps101
    go_wp2
    go_ret
    exact ⟨rfl, rfl⟩
theorem l03Abs_any (a b : Int) (w : World) (a0 : 0 ≤ a) (a1 : a ≤ 1000000000000) (b0 : 0 ≤ b) (b1 : b ≤ 1000000000000) :
    Calls Try.prog 89 #[.int .i64 a, .int .i64 b] w fun e w' => e = .returned (.int .i64 (max (a - b) (b - a))) ∧ w = w' := by
  go_enter Try.func89, Try.ntmps89
  go_wp2_with ((go_at_call 88; refine (l00Max_any _ _ _).mono ?_; rintro e w' ⟨rfl, rfl⟩))
  go_ret
  exact ⟨rfl, rfl⟩
def cordOk (p l g s : Int) : Prop := (1 ≤ p ∧ p ≤ 10000) ∧ (1 ≤ l ∧ l ≤ 500) ∧ (1 ≤ g ∧ g ≤ 10000) ∧ (1 ≤ s ∧ s ≤ 500000)
theorem cordOk_of {p l g s : Int} (h : cordB p l g s = true) : cordOk p l g s := by
  have q := cordB_t h
  exact ⟨inB_t q.1, inB_t q.2.1, inB_t q.2.2.1, inB_t q.2.2.2⟩
set_option maxHeartbeats 1000000 in
theorem tension_any (p l g s : Int) (w : World) (h : cordOk p l g s) :
    Calls Try.prog 50 #[cordV p l g s] w fun e w' => e = .returned (.int .i64 (tenL p l g)) ∧ Below w.heap.size w w' := by
  have k0 := Blk.new w 39 #[.int .i64 p, .int .i64 l, .int .i64 g, .int .i64 s]
  have b0 := Lib.hid ((Below.refl w.heap.size w).alloc (Nat.le_refl _) (.cells #[.int .i64 p, .int .i64 l, .int .i64 g, .int .i64 s] 39))
  have q := prod_bd h.1.1 h.1.2 h.2.1.1 h.2.1.2 h.2.2.1.1 h.2.2.1.2
  obtain ⟨q1, q2, q3, q4, q5⟩ := q
  have hc := k0.cell
  clear h
  unfold tenL
  go_enter Try.func50, Try.ntmps50
  go_wp2_with ((go_at_call 84; refine (divRound_any _ _ _ (by omega) (by omega)).mono ?_; rintro e w' ⟨rfl, rfl⟩))
  go_ret
  exact ⟨rfl, b0.out⟩
set_option maxHeartbeats 1000000 in
theorem l09Tension_any (p l g s : Int) (N : Nat) (w : World) (h : cordOk p l g s) (hk : Blk w N 39 #[.int .i64 p, .int .i64 l, .int .i64 g, .int .i64 s]) :
    Calls Try.prog 54 #[.pointer (some ⟨N, 0, none⟩)] w fun e w' => e = .returned (.int .i64 (tenL p l g)) ∧ Below w.heap.size w w' := by
  have q := prod_bd h.1.1 h.1.2 h.2.1.1 h.2.1.2 h.2.2.1.1 h.2.2.1.2
  obtain ⟨q1, q2, q3, q4, q5⟩ := q
  have hc := bel_cell hk hk.lt
  have w1 : IntKind.i64.wrap (4 * p) = 4 * p := IntWalk.i64_in _ (by omega)
  have w2 : IntKind.i64.wrap (4 * p * p) = 4 * p * p := IntWalk.i64_in _ (by omega)
  have w3 : IntKind.i64.wrap (4 * p * p * l) = 4 * p * p * l := IntWalk.i64_in _ (by omega)
  have w4 : IntKind.i64.wrap (4 * p * p * l * l) = 4 * p * p * l * l := IntWalk.i64_in _ (by omega)
  have w5 : IntKind.i64.wrap (4 * p * p * l * l * g) = 4 * p * p * l * l * g := IntWalk.i64_in _ (by omega)
  clear h
  unfold tenL
  go_enter Try.func54, Try.ntmps54
  go_wp2_with fail
  (refine wp_region_bel w.heap.size w (Below.refl _ _) (by kernel_rfl) (by kernel_rfl) ?_; (repeat (go_big_quiet_step ((first | (go_at_call 85; exact bel_same (l01Div_any _ _ _ (by omega) (by omega))))))); refine wpQuiet_nil ?_; rintro w1 ⟨⟨_, hb1⟩, rfl⟩)
  go_wp2
  go_ret
  exact ⟨rfl, hb1⟩
theorem share_bd {s share : Int} (s0 : 1 ≤ s) (s1 : s ≤ 500000) (h0 : 0 ≤ share) (h1 : share ≤ 1000) : 0 ≤ share * s ∧ share * s ≤ 500000000 := by
  have := mul_bd h0 h1 (show 0 ≤ s by omega) s1
  omega
set_option maxHeartbeats 1000000 in
theorem holds_any (p l g s share : Int) (w : World) (h : cordOk p l g s) (h0 : 0 ≤ share) (h1 : share ≤ 1000) :
    Calls Try.prog 52 #[cordV p l g s, .int .i64 share] w fun e w' => e = .returned (.bool (hoB p l g s share)) ∧ Below w.heap.size w w' := by
  have k0 := Blk.new w 39 #[.int .i64 p, .int .i64 l, .int .i64 g, .int .i64 s]
  have b0 := Lib.hid ((Below.refl w.heap.size w).alloc (Nat.le_refl _) (.cells #[.int .i64 p, .int .i64 l, .int .i64 g, .int .i64 s] 39))
  have tb := tenL_bd h.1.1 h.1.2 h.2.1.1 h.2.1.2 h.2.2.1.1 h.2.2.1.2
  have sb := share_bd h.2.2.2.1 h.2.2.2.2 h0 h1
  have H := Lib.hid h
  obtain ⟨t, ht⟩ : ∃ t, tenL p l g = t := ⟨_, rfl⟩
  have T : Hid (∀ w, Calls Try.prog 50 #[cordV p l g s] w fun e w' => e = .returned (.int .i64 t) ∧ Below w.heap.size w w') := Lib.hid fun w => by rw [← ht]; exact tension_any p l g s w H.out
  unfold hoB
  rw [ht] at tb ⊢
  clear h ht
  have w1 : IntKind.i64.wrap (1000 * t) = 1000 * t := IntWalk.i64_in _ (by omega)
  have w2 : IntKind.i64.wrap (share * s) = share * s := IntWalk.i64_in _ (by omega)
  go_enter Try.func52, Try.ntmps52
  go_wp2_with fail
  generalize w.alloc (.cells #[.int .i64 p, .int .i64 l, .int .i64 g, .int .i64 s] 39) = W at k0 b0 ⊢
  have hc := bel_cell k0 k0.lt
  (refine wp_region_bel W.heap.size W (Below.refl _ _) (by kernel_rfl) (by kernel_rfl) ?_; (repeat (go_big_quiet_step ((first | (go_at_call 50; exact bel_of (Nat.le_refl _) (T.out _)))))); refine wpQuiet_nil ?_; rintro wx ⟨⟨_, hb1⟩, rfl⟩)
  clear hc
  go_wp2
  go_ret
  exact ⟨rfl, below_more b0.out hb1 (Nat.le_refl _)⟩
theorem holds_is {p l g s share : Int} {b : Bool} (e : hoB p l g s share = b) (w : World) (h : cordOk p l g s) (h0 : 0 ≤ share) (h1 : share ≤ 1000) :
    Calls Try.prog 52 #[cordV p l g s, .int .i64 share] w fun e w' => e = .returned (.bool b) ∧ Below w.heap.size w w' := by
  rw [← e]; exact holds_any p l g s share w h h0 h1
set_option maxHeartbeats 1000000 in
theorem l09Holds_any (p l g s share : Int) (N : Nat) (w : World) (h : cordOk p l g s) (h0 : 0 ≤ share) (h1 : share ≤ 1000) (hk : Blk w N 39 #[.int .i64 p, .int .i64 l, .int .i64 g, .int .i64 s]) :
    Calls Try.prog 86 #[.pointer (some ⟨N, 0, none⟩), .int .i64 share] w fun e w' => e = .returned (.bool (hoB p l g s share)) ∧ Below w.heap.size w w' := by
  have tb := tenL_bd h.1.1 h.1.2 h.2.1.1 h.2.1.2 h.2.2.1.1 h.2.2.1.2
  have sb := share_bd h.2.2.2.1 h.2.2.2.2 h0 h1
  have H := Lib.hid h
  have K := Lib.hid hk
  obtain ⟨t, ht⟩ : ∃ t, tenL p l g = t := ⟨_, rfl⟩
  have T : Hid (∀ w' : World, Below w.heap.size w w' → Calls Try.prog 54 #[.pointer (some ⟨N, 0, none⟩)] w' fun e w'' => e = .returned (.int .i64 t) ∧ Below w'.heap.size w' w'') := Lib.hid fun w' hb => by rw [← ht]; exact l09Tension_any p l g s N w' H.out (K.out.below hb K.out.lt)
  unfold hoB
  rw [ht] at tb ⊢
  have hc := bel_cell hk hk.lt
  clear h ht hk
  have w1 : IntKind.i64.wrap (1000 * t) = 1000 * t := IntWalk.i64_in _ (by omega)
  have w2 : IntKind.i64.wrap (share * s) = share * s := IntWalk.i64_in _ (by omega)
  go_enter Try.func86, Try.ntmps86
  go_wp2_with fail
  (refine wp_region_bel w.heap.size w (Below.refl _ _) (by kernel_rfl) (by kernel_rfl) ?_; (repeat (go_big_quiet_step ((first | (go_at_call 54; exact bel_of (Nat.le_refl _) (T.out _ (Bel.below _))))))); refine wpQuiet_nil ?_; rintro wx ⟨⟨_, hb1⟩, rfl⟩)
  go_wp2
  go_ret
  exact ⟨rfl, hb1⟩
end Go.Proofs.Ytemkggecempmgaa
