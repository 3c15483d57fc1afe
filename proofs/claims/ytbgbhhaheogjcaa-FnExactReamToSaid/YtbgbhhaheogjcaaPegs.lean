/- Pegs: how thick at a way, the way into a hole. -/
import Derived.Test.YtbgbhhaheogjcaaStructs
set_option linter.unusedVariables false
namespace Go.Proofs.Ytbgbhhaheogjcaa
open Go.RowKit

def pegT (t k way : Int) : Int := t + way / k
def pegW (t k hole : Int) : Int := max 0 (hole - t) * k
theorem pegW_bd {t k hole : Int} (h1 : inB t 20 200 = true) (h3 : inB k 10 100 = true) (hh : inB hole 20 200 = true) : 0 ≤ pegW t k hole ∧ pegW t k hole ≤ 18000 := by
  have a := inB_t h1
  have b := inB_t h3
  have c := inB_t hh
  have m := mul_bd (show 0 ≤ max 0 (hole - t) by omega) (show max 0 (hole - t) ≤ 180 by omega) (show 0 ≤ k by omega) b.2
  unfold pegW
  omega
set_option maxHeartbeats 1000000 in
theorem wayIn_i (s0 : ByteArray) (a1 a2 a3 hole : Int) (w : World) (h1 : inB a1 20 200 = true) (h3 : inB a3 10 100 = true) (hh : inB hole 20 200 = true) :
    Calls Try.prog 68 #[pegV s0 a1 a2 a3, .int .i64 hole] w fun e w' => e = .returned (.tuple #[.int .i64 (pegW a1 a3 hole), .bool (decide (pegW a1 a3 hole ≤ a2))]) ∧ Below w.heap.size w w' := by
  have a := inB_t h1
  have b := inB_t h3
  have c := inB_t hh
  have m := pegW_bd h1 h3 hh
  clear h1 h3 hh
  have hk := Lib.hid (Blk.new w 27 #[.string s0, .int .i64 a1, .int .i64 a2, .int .i64 a3])
  have hb0 := Lib.hid ((Below.refl w.heap.size w).alloc (Nat.le_refl _) (.cells #[.string s0, .int .i64 a1, .int .i64 a2, .int .i64 a3] 27))
  unfold pegW at m ⊢
  by_cases h : 0 < hole - a1
  · rw [show max 0 (hole - a1) = hole - a1 by omega] at m ⊢
    go_enter Try.func68, Try.ntmps68
    go_wp2_with fail
    generalize w.alloc (.cells #[.string s0, .int .i64 a1, .int .i64 a2, .int .i64 a3] 27) = W at hk hb0 ⊢
    have hc := bel_cell hk.out hk.out.lt
    (refine wp_region_bel W.heap.size W (Below.refl _ _) (by kernel_rfl) (by kernel_rfl) ?_; (repeat (go_big_quiet_step ((first | fail)))); refine wpQuiet_nil ?_; rintro w1 ⟨⟨_, hb1⟩, rfl⟩)
    clear hc
    go_wp2
    go_ret2
    exact ⟨rfl, below_more hb0.out hb1 (Nat.le_refl _)⟩
  · rw [show max 0 (hole - a1) = 0 by omega] at m ⊢
    go_enter Try.func68, Try.ntmps68
    go_wp2_with fail
    generalize w.alloc (.cells #[.string s0, .int .i64 a1, .int .i64 a2, .int .i64 a3] 27) = W at hk hb0 ⊢
    have hc := bel_cell hk.out hk.out.lt
    (refine wp_region_bel W.heap.size W (Below.refl _ _) (by kernel_rfl) (by kernel_rfl) ?_; (repeat (go_big_quiet_step ((first | fail)))); refine wpQuiet_nil ?_; rintro w1 ⟨⟨_, hb1⟩, rfl⟩)
    clear hc
    go_wp2
    go_ret2
    exact ⟨by simp, below_more hb0.out hb1 (Nat.le_refl _)⟩
set_option maxHeartbeats 1000000 in
theorem wayIn_s (s0 : ByteArray) (a1 a2 a3 hole : Int) (N : Nat) (w : World) (h1 : inB a1 20 200 = true) (h3 : inB a3 10 100 = true) (hh : inB hole 20 200 = true) (hk : Blk w N 27 #[.string s0, .int .i64 a1, .int .i64 a2, .int .i64 a3]) :
    Calls Try.prog 64 #[.pointer (some ⟨N, 0, none⟩), .int .i64 hole] w fun e w' => e = .returned (.int .i64 (if pegW a1 a3 hole ≤ a2 then pegW a1 a3 hole else -1)) ∧ Below w.heap.size w w' := by
  have a := inB_t h1
  have b := inB_t h3
  have c := inB_t hh
  have m := pegW_bd h1 h3 hh
  clear h1 h3 hh
  have hc := bel_cell hk hk.lt
  by_cases h : pegW a1 a3 hole ≤ a2
  · rw [if_pos h]
    unfold pegW at m h ⊢
    go_enter Try.func64, Try.ntmps64
    go_wp2_with fail
    have e1 : IntKind.i64.wrap (hole - a1) = hole - a1 := IntWalk.i64_in _ (by omega)
    have e2 : IntKind.i64.wrap (max 0 (hole - a1) * a3) = max 0 (hole - a1) * a3 := IntWalk.i64_in _ (by omega)
    (refine wp_region_bel w.heap.size w (Below.refl _ _) (by kernel_rfl) (by kernel_rfl) ?_; (repeat (go_big_quiet_step ((first | (go_at_call 83; exact bel_same (l00Max_any _ _ _)))))); refine wpQuiet_nil ?_; rintro w1 ⟨⟨_, hb1⟩, rfl⟩)
    clear e1 e2 hc
    have hc := (hk.below hb1 hk.lt).cell
    go_wp2
    go_ret
    exact ⟨rfl, hb1⟩
  · rw [if_neg h]
    unfold pegW at m h
    go_enter Try.func64, Try.ntmps64
    go_wp2_with fail
    have e1 : IntKind.i64.wrap (hole - a1) = hole - a1 := IntWalk.i64_in _ (by omega)
    have e2 : IntKind.i64.wrap (max 0 (hole - a1) * a3) = max 0 (hole - a1) * a3 := IntWalk.i64_in _ (by omega)
    (refine wp_region_bel w.heap.size w (Below.refl _ _) (by kernel_rfl) (by kernel_rfl) ?_; (repeat (go_big_quiet_step ((first | (go_at_call 83; exact bel_same (l00Max_any _ _ _)))))); refine wpQuiet_nil ?_; rintro w1 ⟨⟨_, hb1⟩, rfl⟩)
    clear e1 e2 hc
    have hc := (hk.below hb1 hk.lt).cell
    go_wp2
    go_ret
    exact ⟨rfl, hb1⟩
end Go.Proofs.Ytbgbhhaheogjcaa
