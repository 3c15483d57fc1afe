/- The gap of two planks. -/
import Derived.Test.YtoodlpgamlelaaaPlank
import Derived.Deep.DeepCutAuto
set_option linter.unusedVariables false
set_option linter.unusedSimpArgs false
namespace Go.Proofs.Ytoodlpgamlelaaa
open Go.RowKit

def densL (x : PlankD) : Int := divL (1000000 * x.a4) (x.a1 * x.a2 * x.a3)
def rngL (x : PlankD) : Int := divL (100 * x.a2) x.a5
def distL (a b : Int) : Int := if a < b then b - a else a - b
def gapL (x y : PlankD) : Int := distL (densL x) (densL y) + distL (rngL x) (rngL y)
/-- the sizes of a valid plank -/
def plankR (x : PlankD) : Prop := (1 ≤ x.a1 ∧ x.a1 ≤ 2000) ∧ (1 ≤ x.a2 ∧ x.a2 ≤ 2000) ∧ (1 ≤ x.a3 ∧ x.a3 ≤ 2000) ∧ (1 ≤ x.a4 ∧ x.a4 ≤ 100000) ∧ (1 ≤ x.a5 ∧ x.a5 ≤ 500)
theorem plankR_of {x : PlankD} (h : plankP x = true) : plankR x := by
  obtain ⟨_, h1, h2, h3, h4, h5⟩ := plankB_t h
  exact ⟨inB_t h1, inB_t h2, inB_t h3, inB_t h4, inB_t h5⟩
theorem divL_bd {a b : Int} (ha : 0 ≤ a) (hb : 1 ≤ b) : 0 ≤ divL a b ∧ divL a b ≤ a + 1 := by
  unfold divL
  rw [if_neg (by omega)]
  refine ⟨Int.ediv_nonneg (by omega) (by omega), ?_⟩
  have : (2 * a + b) / (2 * b) < a + 2 := (Int.ediv_lt_iff_lt_mul (by omega)).2 (by
    have h1 : (a + 2) * (2 * b) = 2 * ((a + 2) * b) := by rw [Int.mul_comm (a + 2) (2 * b), Int.mul_assoc, Int.mul_comm b]
    have h2 : a * 1 ≤ a * b := Int.mul_le_mul_of_nonneg_left hb ha
    have h3 : (a + 2) * b = a * b + 2 * b := by rw [Int.add_mul]
    omega)
  omega
theorem vol_bd {x : PlankD} (h : plankR x) : 1 ≤ x.a1 * x.a2 ∧ x.a1 * x.a2 ≤ 4000000 ∧ 1 ≤ x.a1 * x.a2 * x.a3 ∧ x.a1 * x.a2 * x.a3 ≤ 8000000000 := by
  obtain ⟨h1, h2, h3, _⟩ := h
  have a := mul_bd (a := x.a1) (b := x.a2) (show 0 ≤ x.a1 by omega) h1.2 (show 0 ≤ x.a2 by omega) h2.2
  have a1 : 1 * 1 ≤ x.a1 * x.a2 := Int.mul_le_mul h1.1 h2.1 (by omega) (by omega)
  have b := mul_bd (a := x.a1 * x.a2) (b := x.a3) (show 0 ≤ x.a1 * x.a2 by omega) a.2 (show 0 ≤ x.a3 by omega) h3.2
  have b1 : 1 * 1 ≤ x.a1 * x.a2 * x.a3 := Int.mul_le_mul (by omega) h3.1 (by omega) (by omega)
  omega
theorem dens_bd {x : PlankD} (h : plankR x) : 0 ≤ densL x ∧ densL x ≤ 100000000001 := by
  have v := vol_bd h
  obtain ⟨_, _, _, h4, _⟩ := h
  have := divL_bd (a := 1000000 * x.a4) (b := x.a1 * x.a2 * x.a3) (by omega) (by omega)
  unfold densL
  omega
theorem rng_bd {x : PlankD} (h : plankR x) : 0 ≤ rngL x ∧ rngL x ≤ 200001 := by
  obtain ⟨_, h2, _, _, h5⟩ := h
  have := divL_bd (a := 100 * x.a2) (b := x.a5) (by omega) (by omega)
  unfold rngL
  omega
theorem gap_bd {x y : PlankD} (h : plankR x) (g : plankR y) : 0 ≤ gapL x y ∧ gapL x y ≤ 200000000000 := by
  have a := dens_bd h
  have b := dens_bd g
  have c := rng_bd h
  have d := rng_bd g
  unfold gapL distL
  split <;> split <;> omega
set_option maxHeartbeats 1000000 in
theorem density_i (x : PlankD) (d : Int) (hd : d = densL x) (w : World) (h : plankR x) :
    Calls Try.prog 50 #[plankV x.s0 x.a1 x.a2 x.a3 x.a4 x.a5] w fun e w' => e = .returned (.int .i64 d) ∧ Below w.heap.size w w' := by
  have v := vol_bd h
  obtain ⟨_, _, _, h4, _⟩ := h
  have CD := Lib.hid (fun w => divRound_any (1000000 * x.a4) (x.a1 * x.a2 * x.a3) w (by omega) (by omega))
  have e : divL (1000000 * x.a4) (x.a1 * x.a2 * x.a3) = d := hd.symm
  rw [e] at CD
  clear e hd
  go_enter Try.func50, Try.ntmps50
  go_wp2_with ((go_at_call 56; refine (CD.out _).mono ?_; rintro e w' ⟨rfl, rfl⟩))
  go_ret
  exact ⟨rfl, (Below.refl _ _).alloc (Nat.le_refl _) _⟩
set_option maxHeartbeats 1000000 in
theorem rings_i (x : PlankD) (d : Int) (hd : d = rngL x) (w : World) (h : plankR x) :
    Calls Try.prog 51 #[plankV x.s0 x.a1 x.a2 x.a3 x.a4 x.a5] w fun e w' => e = .returned (.int .i64 d) ∧ Below w.heap.size w w' := by
  obtain ⟨_, h2, _, _, h5⟩ := h
  have CD := Lib.hid (fun w => divRound_any (100 * x.a2) x.a5 w (by omega) (by omega))
  have e : divL (100 * x.a2) x.a5 = d := hd.symm
  rw [e] at CD
  clear e hd
  go_enter Try.func51, Try.ntmps51
  go_wp2_with ((go_at_call 56; refine (CD.out _).mono ?_; rintro e w' ⟨rfl, rfl⟩))
  go_ret
  exact ⟨rfl, (Below.refl _ _).alloc (Nat.le_refl _) _⟩
theorem distance_i (a b : Int) (w : World) (ha : 0 ≤ a ∧ a ≤ 1000000000000) (hb : 0 ≤ b ∧ b ≤ 1000000000000) :
    Calls Try.prog 49 #[.int .i64 a, .int .i64 b] w fun e w' => e = .returned (.int .i64 (distL a b)) ∧ w = w' := by
  go_enter Try.func49, Try.ntmps49
  go_wp2
  all_goals (
    go_ret
    exact ⟨ret_int (by unfold distL; split <;> omega), rfl⟩)
theorem density_g (s0 : ByteArray) (a1 a2 a3 a4 a5 : Int) (w : World) (h : plankR ⟨s0, a1, a2, a3, a4, a5⟩) :
    Calls Try.prog 50 #[plankV s0 a1 a2 a3 a4 a5] w fun e w' => e = .returned (.int .i64 (densL ⟨s0, a1, a2, a3, a4, a5⟩)) ∧ Below w.heap.size w w' := density_i ⟨s0, a1, a2, a3, a4, a5⟩ _ rfl w h
theorem rings_g (s0 : ByteArray) (a1 a2 a3 a4 a5 : Int) (w : World) (h : plankR ⟨s0, a1, a2, a3, a4, a5⟩) :
    Calls Try.prog 51 #[plankV s0 a1 a2 a3 a4 a5] w fun e w' => e = .returned (.int .i64 (rngL ⟨s0, a1, a2, a3, a4, a5⟩)) ∧ Below w.heap.size w w' := rings_i ⟨s0, a1, a2, a3, a4, a5⟩ _ rfl w h
theorem dist_bd {a b : Int} (ha : 0 ≤ a ∧ a ≤ 1000000000000) (hb : 0 ≤ b ∧ b ≤ 1000000000000) : 0 ≤ distL a b ∧ distL a b ≤ 1000000000000 := by unfold distL; split <;> omega
set_option maxRecDepth 100000 in
set_option maxHeartbeats 2000000 in
theorem gap_g (s0 : ByteArray) (a1 a2 a3 a4 a5 : Int) (t0 : ByteArray) (c1 c2 c3 c4 c5 : Int) (w : World) (h : plankR ⟨s0, a1, a2, a3, a4, a5⟩) (h' : plankR ⟨t0, c1, c2, c3, c4, c5⟩) :
    Calls Try.prog 40 #[plankV s0 a1 a2 a3 a4 a5, plankV t0 c1 c2 c3 c4 c5] w fun e w' => e = .returned (.int .i64 (gapL ⟨s0, a1, a2, a3, a4, a5⟩ ⟨t0, c1, c2, c3, c4, c5⟩)) ∧ Below w.heap.size w w' := by
  have b1 := dens_bd h
  have b2 := dens_bd h'
  have b3 := rng_bd h
  have b4 := rng_bd h'
  have q1 := dist_bd (a := densL ⟨s0, a1, a2, a3, a4, a5⟩) (b := densL ⟨t0, c1, c2, c3, c4, c5⟩) (by omega) (by omega)
  have q2 := dist_bd (a := rngL ⟨s0, a1, a2, a3, a4, a5⟩) (b := rngL ⟨t0, c1, c2, c3, c4, c5⟩) (by omega) (by omega)
  have B0 := Lib.hid (((Below.refl w.heap.size w).alloc (Nat.le_refl _) (.cells (plankC s0 a1 a2 a3 a4 a5) 35)).alloc (by simp) (.cells (plankC t0 c1 c2 c3 c4 c5) 35))
  have T1 := Blk.new w 35 (plankC s0 a1 a2 a3 a4 a5)
  have T1 := Lib.hid (T1.alloc (.cells (plankC t0 c1 c2 c3 c4 c5) 35))
  have T2 := Lib.hid (Blk.new (w.alloc (.cells (plankC s0 a1 a2 a3 a4 a5) 35)) 35 (plankC t0 c1 c2 c3 c4 c5))
  go_enter Try.func40, Try.ntmps40
  go_upto_region 1 with fail
  obtain ⟨N1, hN1⟩ : ∃ N, N = w.heap.size := ⟨_, rfl⟩
  rw [← hN1] at T1
  have e2 : (w.alloc (.cells (plankC s0 a1 a2 a3 a4 a5) 35)).heap.size = N1 + 1 := by rw [hN1]; simp
  rw [e2] at T2
  rw [← hN1]
  have HN := Lib.hid hN1
  clear hN1 e2
  generalize (w.alloc (.cells (plankC s0 a1 a2 a3 a4 a5) 35)).alloc (.cells (plankC t0 c1 c2 c3 c4 c5) 35) = w1 at B0 T1 T2 ⊢
  have hc1 := bel_cell T1.out T1.out.lt
  have hc2 := bel_cell T2.out T2.out.lt
  (refine wp_region_bel w1.heap.size w1 (Below.refl _ _) (by kernel_rfl) (by kernel_rfl) ?_; (repeat (go_big_quiet_step ((first | (go_at_call 50; exact bel_of (Nat.le_refl _) (density_g _ _ _ _ _ _ _ (by assumption))) | (go_at_call 51; exact bel_of (Nat.le_refl _) (rings_g _ _ _ _ _ _ _ (by assumption))) | (go_at_call 49; exact bel_same (distance_i _ _ _ (by omega) (by omega))))))); refine wpQuiet_nil ?_; rintro w2 ⟨⟨_, hb⟩, rfl⟩)
  have B2 := Lib.hid (below_more B0.out hb (Nat.le_refl _))
  go_wp2
  go_ret
  exact ⟨rfl, B2.out⟩
theorem gap_i (x y : PlankD) (w : World) (h : plankR x) (h' : plankR y) :
    Calls Try.prog 40 #[plankV x.s0 x.a1 x.a2 x.a3 x.a4 x.a5, plankV y.s0 y.a1 y.a2 y.a3 y.a4 y.a5] w fun e w' => e = .returned (.int .i64 (gapL x y)) ∧ Below w.heap.size w w' := gap_g _ _ _ _ _ _ _ _ _ _ _ _ w h h'
end Go.Proofs.Ytoodlpgamlelaaa
