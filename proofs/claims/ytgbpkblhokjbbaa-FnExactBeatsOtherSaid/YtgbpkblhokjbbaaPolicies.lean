/- Policies: what is paid, PaidFor, WorthFrom. -/
import Derived.Test.YtgbpkblhokjbbaaQuotes
set_option linter.unusedVariables false
namespace Go.Proofs.Ytgbpkblhokjbbaa
open Go.RowKit

def paidP (sh ex mo d : Int) : Int := min mo (sh * max 0 (d - ex) / 1000)
set_option maxHeartbeats 1000000 in
theorem paid_i (s0 : ByteArray) (a1 a2 a3 a4 d : Int) (w : World) (h2 : inB a2 0 1000 = true) (h3 : inB a3 0 10000000 = true) (h4 : inB a4 0 10000000 = true) (d0 : 0 ≤ d) (d1 : d ≤ 10000000) :
    Calls Try.prog 69 #[policyV s0 a1 a2 a3 a4, .int .i64 d] w fun e w' => e = .returned (.int .i64 (paidP a2 a3 a4 d)) ∧ Below w.heap.size w w' := by
  have a := inB_t h2
  have b := inB_t h3
  have c := inB_t h4
  clear h2 h3 h4
  unfold paidP
  by_cases h : 0 < d - a3
  · rw [show max 0 (d - a3) = d - a3 by omega]
    have m := mul_bd a.1 a.2 (show 0 ≤ d - a3 by omega) (show d - a3 ≤ 10000000 by omega)
    by_cases g : a2 * (d - a3) / 1000 < a4
    all_goals
      go_enter Try.func69, Try.ntmps69
      go_wp2
      go_ret
      exact ⟨ret_int (by omega), (Below.refl _ _).alloc (Nat.le_refl _) _⟩
  · rw [show max 0 (d - a3) = 0 by omega]
    by_cases g : 0 < a4
    all_goals
      go_enter Try.func69, Try.ntmps69
      go_wp2
      go_ret
      exact ⟨ret_int (by omega), (Below.refl _ _).alloc (Nat.le_refl _) _⟩
set_option maxHeartbeats 1000000 in
theorem paid_s (s0 : ByteArray) (a1 a2 a3 a4 d : Int) (N : Nat) (w : World) (h2 : inB a2 0 1000 = true) (h3 : inB a3 0 10000000 = true) (h4 : inB a4 0 10000000 = true) (d0 : 0 ≤ d) (d1 : d ≤ 10000000)
    (hk : Blk w N 26 #[.string s0, .int .i64 a1, .int .i64 a2, .int .i64 a3, .int .i64 a4]) :
    Calls Try.prog 67 #[.pointer (some ⟨N, 0, none⟩), .int .i64 d] w fun e w' => e = .returned (.int .i64 (paidP a2 a3 a4 d)) ∧ Below w.heap.size w w' := by
  have a := inB_t h2
  have b := inB_t h3
  have c := inB_t h4
  clear h2 h3 h4
  unfold paidP
  rw [Int.mul_comm]
  have m := mul_bd (show 0 ≤ max 0 (d - a3) by omega) (show max 0 (d - a3) ≤ 10000000 by omega) a.1 a.2
  have hc := bel_cell hk hk.lt
  go_enter Try.func67, Try.ntmps67
  go_wp2_with fail
  have e1 : IntKind.i64.wrap (d - a3) = d - a3 := IntWalk.i64_in _ (by omega)
  have e2 : IntKind.i64.wrap (max 0 (d - a3) * a2) = max 0 (d - a3) * a2 := IntWalk.i64_in _ (by omega)
  (refine wp_region_bel w.heap.size w (Below.refl _ _) (by kernel_rfl) (by kernel_rfl) ?_; (repeat (go_big_quiet_step ((first | (go_at_call 81; exact bel_same (l00Max_any _ _ _)) | (go_at_call 88; exact bel_same (l00Min_any _ _ _)))))); refine wpQuiet_nil ?_; rintro w1 ⟨⟨_, hb1⟩, rfl⟩)
  clear e1 e2 hc
  go_wp2
  go_ret
  exact ⟨rfl, hb1⟩
end Go.Proofs.Ytgbpkblhokjbbaa
