/- Rentals: the end, what is due, EndOf, DueBy, BuyPrice. -/
import Derived.Test.YtgbpkblhokjbbaaQuotes
set_option linter.unusedVariables false
namespace Go.Proofs.Ytgbpkblhokjbbaa
open Go.RowKit

def endR (d m : Int) : Int := d + 30 * m
def dueM (d m day : Int) : Int := if day < d then 0 else min m ((day - d) / 30 + 1)
theorem dueM_bd {d m day : Int} (hd : inB d 0 100000 = true) (hm : inB m 1 120 = true) (hy : inB day 0 100000 = true) : 0 ≤ dueM d m day ∧ dueM d m day ≤ 120 := by
  have a := inB_t hd
  have b := inB_t hm
  have c := inB_t hy
  unfold dueM
  split <;> omega
theorem end_i (s0 s1 : ByteArray) (a2 a3 a4 : Int) (w : World) (h2 : inB a2 0 100000 = true) (h3 : inB a3 1 120 = true) :
    Calls Try.prog 65 #[rentalV s0 s1 a2 a3 a4] w fun e w' => e = .returned (.int .i64 (endR a2 a3)) ∧ Below w.heap.size w w' := by
  have a := inB_t h2
  have b := inB_t h3
  clear h2 h3
  go_enter Try.func65, Try.ntmps65
  go_wp2
  go_ret
  exact ⟨rfl, (Below.refl _ _).alloc (Nat.le_refl _) _⟩
theorem end_s (s0 s1 : ByteArray) (a2 a3 a4 : Int) (N : Nat) (w : World) (h2 : inB a2 0 100000 = true) (h3 : inB a3 1 120 = true) (hk : Blk w N 48 #[.string s0, .string s1, .int .i64 a2, .int .i64 a3, .int .i64 a4]) :
    Calls Try.prog 63 #[.pointer (some ⟨N, 0, none⟩)] w fun e w' => e = .returned (.int .i64 (endR a2 a3)) ∧ Below w.heap.size w w' := by
  have a := inB_t h2
  have b := inB_t h3
  clear h2 h3
  have hc := bel_cell hk hk.lt
  go_enter Try.func63, Try.ntmps63
  go_wp2_with fail
  have e1 : IntKind.i64.wrap (30 * a3) = 30 * a3 := IntWalk.i64_in _ (by omega)
  have e2 : IntKind.i64.wrap (a2 + 30 * a3) = a2 + 30 * a3 := IntWalk.i64_in _ (by omega)
  (refine wp_region_bel w.heap.size w (Below.refl _ _) (by kernel_rfl) (by kernel_rfl) ?_; (repeat (go_big_quiet_step ((first | fail)))); refine wpQuiet_nil ?_; rintro w1 ⟨⟨_, hb1⟩, rfl⟩)
  clear e1 e2 hc
  go_wp2
  go_ret
  exact ⟨rfl, hb1⟩
set_option maxHeartbeats 1000000 in
theorem due_i (s0 s1 : ByteArray) (a2 a3 a4 day : Int) (w : World) (h2 : inB a2 0 100000 = true) (h3 : inB a3 1 120 = true) (h4 : inB a4 0 10000000 = true) (hy : inB day 0 100000 = true) :
    Calls Try.prog 79 #[rentalV s0 s1 a2 a3 a4, .int .i64 day] w fun e w' => e = .returned (.int .i64 (a4 * dueM a2 a3 day)) ∧ Below w.heap.size w w' := by
  have a := inB_t h2
  have b := inB_t h3
  have c := inB_t h4
  have d := inB_t hy
  clear h2 h3 h4 hy
  by_cases h : day < a2
  · rw [show dueM a2 a3 day = 0 by unfold dueM; rw [if_pos h]]
    go_enter Try.func79, Try.ntmps79
    go_wp2
    go_ret
    exact ⟨ret_int (by omega), (Below.refl _ _).alloc (Nat.le_refl _) _⟩
  · rw [show dueM a2 a3 day = min a3 ((day - a2) / 30 + 1) by unfold dueM; rw [if_neg h]]
    by_cases g : (day - a2) / 30 + 1 < a3
    · have m := mul_bd c.1 c.2 (show 0 ≤ (day - a2) / 30 + 1 by omega) (show (day - a2) / 30 + 1 ≤ 120 by omega)
      rw [show min a3 ((day - a2) / 30 + 1) = (day - a2) / 30 + 1 by omega]
      go_enter Try.func79, Try.ntmps79
      go_wp2
      go_ret
      exact ⟨rfl, (Below.refl _ _).alloc (Nat.le_refl _) _⟩
    · have m := mul_bd c.1 c.2 (show 0 ≤ a3 by omega) (show a3 ≤ 120 by omega)
      rw [show min a3 ((day - a2) / 30 + 1) = a3 by omega]
      go_enter Try.func79, Try.ntmps79
      go_wp2
      go_ret
      exact ⟨rfl, (Below.refl _ _).alloc (Nat.le_refl _) _⟩
set_option maxHeartbeats 1000000 in
theorem due_s (s0 s1 : ByteArray) (a2 a3 a4 day : Int) (N : Nat) (w : World) (h2 : inB a2 0 100000 = true) (h3 : inB a3 1 120 = true) (hy : inB day 0 100000 = true) (hk : Blk w N 48 #[.string s0, .string s1, .int .i64 a2, .int .i64 a3, .int .i64 a4]) :
    Calls Try.prog 77 #[.pointer (some ⟨N, 0, none⟩), .int .i64 day] w fun e w' => e = .returned (.int .i64 (dueM a2 a3 day)) ∧ Below w.heap.size w w' := by
  have a := inB_t h2
  have b := inB_t h3
  have d := inB_t hy
  clear h2 h3 hy
  by_cases h : day < a2
  · rw [show dueM a2 a3 day = 0 by unfold dueM; rw [if_pos h]]
    have hc := hk.cell
    go_enter Try.func77, Try.ntmps77
    go_wp2
    go_ret
    exact ⟨rfl, Below.refl _ _⟩
  · rw [show dueM a2 a3 day = min a3 ((day - a2) / 30 + 1) by unfold dueM; rw [if_neg h]]
    have hc0 := hk.cell
    have hc := bel_cell hk hk.lt
    go_enter Try.func77, Try.ntmps77
    go_wp2_with fail
    have e1 : IntKind.i64.wrap (day - a2) = day - a2 := IntWalk.i64_in _ (by omega)
    have e2 : IntKind.i64.wrap ((day - a2) / 30 + 1) = (day - a2) / 30 + 1 := IntWalk.i64_in _ (by omega)
    have e3 : 0 ≤ day - a2 := by omega
    (refine wp_region_bel w.heap.size w (Below.refl _ _) (by kernel_rfl) (by kernel_rfl) ?_; (repeat (go_big_quiet_step ((first | (go_at_call 88; exact bel_same (l00Min_any _ _ _)))))); refine wpQuiet_nil ?_; rintro w1 ⟨⟨_, hb1⟩, rfl⟩)
    clear e1 e2 hc hc0
    go_wp2
    go_ret
    exact ⟨rfl, hb1⟩
end Go.Proofs.Ytgbpkblhokjbbaa
