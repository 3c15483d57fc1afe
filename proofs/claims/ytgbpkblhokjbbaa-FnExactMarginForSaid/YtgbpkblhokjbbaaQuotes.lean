/- Contracts of the functions on quotes, policies, rentals, pegs. -/
import Derived.Test.YtgbpkblhokjbbaaStructs
set_option linter.unusedVariables false
namespace Go.Proofs.Ytgbpkblhokjbbaa
open Go.RowKit

theorem l00Min_any (a b : Int) (w : World) :
    Calls Try.prog 88 #[.int .i64 a, .int .i64 b] w fun e w' => e = .returned (.int .i64 (min a b)) ∧ w = w' := by
  by_cases h : a < b
  all_goals
    go_enter Try.func88, Try.ntmps88
    go_wp2
    go_ret
    exact ⟨ret_int (by omega), rfl⟩
def qCost (h r m : Int) : Int := h * r + m
def qPrice (h r m g : Int) : Int := (qCost h r m * (1000 + g) + 999) / 1000
theorem qCost_bd {h r m : Int} (h0 : inB h 0 1000 = true) (h1 : inB r 0 20000 = true) (h2 : inB m 0 10000000 = true) : 0 ≤ h * r ∧ h * r ≤ 20000000 ∧ 0 ≤ qCost h r m ∧ qCost h r m ≤ 30000000 := by
  have a := inB_t h0
  have b := inB_t h1
  have c := inB_t h2
  have d := mul_bd a.1 a.2 b.1 b.2
  unfold qCost
  omega
theorem qPrice_bd {h r m g : Int} (h0 : inB h 0 1000 = true) (h1 : inB r 0 20000 = true) (h2 : inB m 0 10000000 = true) (h3 : inB g 0 5000 = true) : 0 ≤ qCost h r m * (1000 + g) ∧ qCost h r m * (1000 + g) ≤ 180000000000 := by
  have a := qCost_bd h0 h1 h2
  have b := inB_t h3
  have d := mul_bd a.2.2.1 a.2.2.2 (show 0 ≤ 1000 + g by omega) (show 1000 + g ≤ 6000 by omega)
  omega
theorem qcost_i (s0 : ByteArray) (a1 a2 a3 a4 : Int) (w : World) (h0 : inB a1 0 1000 = true) (h1 : inB a2 0 20000 = true) (h2 : inB a3 0 10000000 = true) :
    Calls Try.prog 54 #[quoteV s0 a1 a2 a3 a4] w fun e w' => e = .returned (.int .i64 (qCost a1 a2 a3)) ∧ Below w.heap.size w w' := by
  have a := inB_t h0
  have b := inB_t h1
  have c := inB_t h2
  have d := mul_bd a.1 a.2 b.1 b.2
  clear h0 h1 h2
  go_enter Try.func54, Try.ntmps54
  go_wp2
  go_ret
  exact ⟨rfl, (Below.refl _ _).alloc (Nat.le_refl _) _⟩
set_option maxHeartbeats 1000000 in
theorem qprice_i (s0 : ByteArray) (a1 a2 a3 a4 : Int) (w : World) (h0 : inB a1 0 1000 = true) (h1 : inB a2 0 20000 = true) (h2 : inB a3 0 10000000 = true) (h3 : inB a4 0 5000 = true) :
    Calls Try.prog 56 #[quoteV s0 a1 a2 a3 a4] w fun e w' => e = .returned (.int .i64 (qPrice a1 a2 a3 a4)) ∧ Below w.heap.size w w' := by
  have p := qPrice_bd h0 h1 h2 h3
  have g := inB_t h3
  have hk := Lib.hid (Blk.new w 34 #[.string s0, .int .i64 a1, .int .i64 a2, .int .i64 a3, .int .i64 a4])
  have hb0 := Lib.hid ((Below.refl w.heap.size w).alloc (Nat.le_refl _) (.cells #[.string s0, .int .i64 a1, .int .i64 a2, .int .i64 a3, .int .i64 a4] 34))
  have H0 := Lib.hid h0
  have H1 := Lib.hid h1
  have H2 := Lib.hid h2
  clear h0 h1 h2 h3
  go_enter Try.func56, Try.ntmps56
  go_wp2_with fail
  generalize w.alloc (.cells #[.string s0, .int .i64 a1, .int .i64 a2, .int .i64 a3, .int .i64 a4] 34) = W at hk hb0 ⊢
  have hc := bel_cell hk.out hk.out.lt
  have e1 : IntKind.i64.wrap (1000 + a4) = 1000 + a4 := IntWalk.i64_in _ (by omega)
  have e2 : IntKind.i64.wrap (qCost a1 a2 a3 * (1000 + a4)) = qCost a1 a2 a3 * (1000 + a4) := IntWalk.i64_in _ (by omega)
  (refine wp_region_bel W.heap.size W (Below.refl _ _) (by kernel_rfl) (by kernel_rfl) ?_; (repeat (go_big_quiet_step ((first | (go_at_call 54; exact bel_of (Nat.le_refl _) (qcost_i _ _ _ _ _ _ H0.out H1.out H2.out)))))); refine wpQuiet_nil ?_; rintro w1 ⟨⟨_, hb1⟩, rfl⟩)
  clear e1 e2 hc
  go_wp2
  go_ret
  exact ⟨rfl, below_more hb0.out hb1 (Nat.le_refl _)⟩
set_option maxHeartbeats 1000000 in
theorem qcost_s (s0 : ByteArray) (a1 a2 a3 a4 : Int) (N : Nat) (w : World) (h0 : inB a1 0 1000 = true) (h1 : inB a2 0 20000 = true) (h2 : inB a3 0 10000000 = true) (hk : Blk w N 34 #[.string s0, .int .i64 a1, .int .i64 a2, .int .i64 a3, .int .i64 a4]) :
    Calls Try.prog 52 #[.pointer (some ⟨N, 0, none⟩)] w fun e w' => e = .returned (.int .i64 (qCost a1 a2 a3)) ∧ Below w.heap.size w w' := by
  have a := inB_t h0
  have b := inB_t h1
  have c := inB_t h2
  have d := mul_bd a.1 a.2 b.1 b.2
  clear h0 h1 h2
  have hc := bel_cell hk hk.lt
  go_enter Try.func52, Try.ntmps52
  go_wp2_with fail
  have e1 : IntKind.i64.wrap (a1 * a2) = a1 * a2 := IntWalk.i64_in _ (by omega)
  have e2 : IntKind.i64.wrap (a1 * a2 + a3) = a1 * a2 + a3 := IntWalk.i64_in _ (by omega)
  (refine wp_region_bel w.heap.size w (Below.refl _ _) (by kernel_rfl) (by kernel_rfl) ?_; (repeat (go_big_quiet_step ((first | fail)))); refine wpQuiet_nil ?_; rintro w1 ⟨⟨_, hb1⟩, rfl⟩)
  clear e1 e2 hc
  go_wp2
  go_ret
  exact ⟨rfl, hb1⟩
set_option maxHeartbeats 1000000 in
theorem qprice_s (s0 : ByteArray) (a1 a2 a3 a4 : Int) (N : Nat) (w : World) (h0 : inB a1 0 1000 = true) (h1 : inB a2 0 20000 = true) (h2 : inB a3 0 10000000 = true) (h3 : inB a4 0 5000 = true) (hk : Blk w N 34 #[.string s0, .int .i64 a1, .int .i64 a2, .int .i64 a3, .int .i64 a4]) :
    Calls Try.prog 55 #[.pointer (some ⟨N, 0, none⟩)] w fun e w' => e = .returned (.int .i64 (qPrice a1 a2 a3 a4)) ∧ Below w.heap.size w w' := by
  have p := qPrice_bd h0 h1 h2 h3
  have g := inB_t h3
  have H0 := Lib.hid h0
  have H1 := Lib.hid h1
  have H2 := Lib.hid h2
  clear h0 h1 h2 h3
  have hc := bel_cell hk hk.lt
  go_enter Try.func55, Try.ntmps55
  go_wp2_with fail
  have e1 : IntKind.i64.wrap (1000 + a4) = 1000 + a4 := IntWalk.i64_in _ (by omega)
  have e2 : IntKind.i64.wrap (qCost a1 a2 a3 * (1000 + a4)) = qCost a1 a2 a3 * (1000 + a4) := IntWalk.i64_in _ (by omega)
  (refine wp_region_bel w.heap.size w (Below.refl _ _) (by kernel_rfl) (by kernel_rfl) ?_; (repeat (go_big_quiet_step ((first | (go_at_call 52; exact bel_of (Nat.le_refl _) (qcost_s s0 _ _ _ a4 N _ H0.out H1.out H2.out (hk.below (Bel.below _) hk.lt))))))); refine wpQuiet_nil ?_; rintro w1 ⟨⟨_, hb1⟩, rfl⟩)
  clear e1 e2 hc
  go_wp2
  go_ret
  exact ⟨rfl, hb1⟩
end Go.Proofs.Ytgbpkblhokjbbaa
