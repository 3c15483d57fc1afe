/- Modes: RingAfter, CyclesTo. -/
import Derived.Test.YtbgbhhaheogjcaaStructs
import Derived.Test.YtbgbhhaheogjcaaDiv
set_option linter.unusedVariables false
namespace Go.Proofs.Ytbgbhhaheogjcaa
open Go.RowKit

def fallL (s l : Int) : Int := s - divL (s * l) 1000
theorem fall_bd {s l : Int} (s0 : 0 ≤ s) (s1 : s ≤ 1000000) (l0 : 1 ≤ l) (l1 : l ≤ 500) : 0 ≤ s * l ∧ s * l ≤ 500000000 ∧ 0 ≤ divL (s * l) 1000 ∧ divL (s * l) 1000 ≤ s ∧ 0 ≤ fallL s l ∧ fallL s l ≤ s := by
  have m := mul_bd s0 s1 (show 0 ≤ l by omega) l1
  have k : s * l ≤ s * 500 := Int.mul_le_mul_of_nonneg_left l1 s0
  have d : divL (s * l) 1000 = (2 * (s * l) + 1000) / (2 * 1000) := by unfold divL; rw [if_neg (by omega)]
  unfold fallL
  rw [d]
  omega
set_option maxHeartbeats 1000000 in
theorem fall_i (s0 : ByteArray) (a1 a2 s : Int) (w : World) (h2 : inB a2 1 500 = true) (b0 : 0 ≤ s) (b1 : s ≤ 1000000) :
    Calls Try.prog 76 #[modeV s0 a1 a2, .int .i64 s] w fun e w' => e = .returned (.int .i64 (fallL s a2)) ∧ Below w.heap.size w w' := by
  have a := inB_t h2
  have m := fall_bd b0 b1 a.1 a.2
  clear h2
  go_enter Try.func76, Try.ntmps76
  go_wp2_with ((go_at_call 117; refine (divRound_any _ _ _ (by omega) (by omega)).mono ?_; rintro e w' ⟨rfl, rfl⟩))
  go_ret
  exact ⟨rfl, (Below.refl _ _).alloc (Nat.le_refl _) _⟩
set_option maxHeartbeats 1000000 in
theorem fall_s (a2 s : Int) (w : World) (h2 : inB a2 1 500 = true) (b0 : 0 ≤ s) (b1 : s ≤ 1000000) :
    Calls Try.prog 72 #[.int .i64 s, .int .i64 a2] w fun e w' => e = .returned (.int .i64 (fallL s a2)) ∧ w = w' := by
  have a := inB_t h2
  have m := fall_bd b0 b1 a.1 a.2
  clear h2
  go_enter Try.func72, Try.ntmps72
  go_wp2_with ((go_at_call 115; refine (l01Div_any _ _ _ (by omega) (by omega)).mono ?_; rintro e w' ⟨rfl, rfl⟩))
  go_ret
  exact ⟨rfl, rfl⟩
/-- the strength behind k cycles -/
def ringN (s l : Int) : Nat → Int
  | 0 => s
  | k + 1 => fallL (ringN s l k) l
theorem ringN_bd {s l : Int} (s0 : 0 ≤ s) (s1 : s ≤ 1000000) (l0 : 1 ≤ l) (l1 : l ≤ 500) (k : Nat) : 0 ≤ ringN s l k ∧ ringN s l k ≤ 1000000 := by
  induction k with
  | zero => exact ⟨s0, s1⟩
  | succ k ih => have := fall_bd ih.1 ih.2 l0 l1; rw [ringN]; omega
def raL (s0 : ByteArray) (a1 a2 s c : Int) : Int × Int := if modeB s0 a1 a2 = true then (if (inB s 0 1000000 && inB c 0 1000) = true then (ringN s a2 c.toNat, 0) else (0, 2)) else (0, 1)
set_option maxHeartbeats 2000000 in
theorem RingAfter_i (s0 : ByteArray) (a1 a2 s c : Int) (w : World) (z0 : s0.size ≤ maxLen) :
    Calls Try.prog 22 #[modeV s0 a1 a2, .int .i64 s, .int .i64 c] w fun e w' => e = .returned (.tuple #[.int .i64 (raL s0 a1 a2 s c).1, .int .i64 (raL s0 a1 a2 s c).2]) ∧ Below w.heap.size w w' := by
  have hk := Lib.hid (Blk.new w 34 #[.string s0, .int .i64 a1, .int .i64 a2])
  have hb0 := Lib.hid ((Below.refl w.heap.size w).alloc (Nat.le_refl _) (.cells #[.string s0, .int .i64 a1, .int .i64 a2] 34))
  cases h : modeB s0 a1 a2
  · simp only [raL, h]
    go_enter Try.func22, Try.ntmps22
    go_wp2_with fail
    refine (modevalid_is h _ z0).mono ?_
    rintro r w1 ⟨rfl, hb1⟩
    go_wp2
    go_ret2
    exact ⟨rfl, below_more hb0.out hb1 (Nat.le_refl _)⟩
  cases g : inB s 0 1000000
  · rw [show raL s0 a1 a2 s c = (0, 2) by simp [raL, h, g]]
    go_enter Try.func22, Try.ntmps22
    go_wp2_with fail
    refine (modevalid_is h _ z0).mono ?_
    rintro r w1 ⟨rfl, hb1⟩
    go_wp2_with (first | (go_at_call 74; refine (isStrength_any _ _).mono ?_; rintro e w' ⟨rfl, rfl⟩) | (go_at_call 75; refine (within_any _ _ _ _).mono ?_; rintro e w' ⟨rfl, rfl⟩))
    go_ret2
    exact ⟨rfl, below_more hb0.out hb1 (Nat.le_refl _)⟩
  cases g2 : inB c 0 1000
  · rw [show raL s0 a1 a2 s c = (0, 2) by simp [raL, h, g2]]
    go_enter Try.func22, Try.ntmps22
    go_wp2_with fail
    refine (modevalid_is h _ z0).mono ?_
    rintro r w1 ⟨rfl, hb1⟩
    go_wp2_with (first | (go_at_call 74; refine (isStrength_any _ _).mono ?_; rintro e w' ⟨rfl, rfl⟩) | (go_at_call 75; refine (within_any _ _ _ _).mono ?_; rintro e w' ⟨rfl, rfl⟩))
    go_ret2
    exact ⟨rfl, below_more hb0.out hb1 (Nat.le_refl _)⟩
  · have q := modeB_t h
    have q2 := inB_t q.2.2
    have Q2 := Lib.hid q.2.2
    have gs := inB_t g
    have gc := inB_t g2
    rw [show raL s0 a1 a2 s c = (ringN s a2 c.toNat, 0) by simp [raL, h, g, g2]]
    obtain ⟨n, rfl⟩ : ∃ n : Nat, c = n := ⟨c.toNat, by omega⟩
    rw [Int.toNat_natCast]
    go_enter Try.func22, Try.ntmps22
    go_wp2_with fail
    refine (modevalid_is h _ z0).mono ?_
    rintro r w1 ⟨rfl, hb1⟩
    have k1 := Lib.hid (hk.out.below hb1 hk.out.lt)
    have b1 := Lib.hid (below_more hb0.out hb1 (Nat.le_refl _))
    clear hk hb0 hb1
    go_wp2_with (first | (go_at_call 74; refine (isStrength_any _ _).mono ?_; rintro e w' ⟨rfl, rfl⟩) | (go_at_call 75; refine (within_any _ _ _ _).mono ?_; rintro e w' ⟨rfl, rfl⟩))
    clear h g g2 q
    go_loopw [1, 20] (fun x i wr => ∃ k : Nat, k ≤ n ∧ x = .int .i64 (ringN s a2 k) ∧ i = .int .i64 k ∧ Hid (Blk wr w.heap.size 34 #[.string s0, .int .i64 a1, .int .i64 a2]) ∧ Hid (Below w.heap.size w wr)) (fun _ i _ => n - (intOf i).toNat)
    case atStart => exact ⟨0, by omega, rfl, rfl, k1, b1⟩
    case round =>
      obtain ⟨k, hk, rfl, rfl, kr, br⟩ := hrel
      have hc := kr.out.cell
      have rb := ringN_bd gs.1 gs.2 q2.1 q2.2 k
      by_cases hlt : k < n
      · go_wp2_with fail
        refine (fall_i _ _ _ _ _ Q2.out rb.1 rb.2).mono ?_
        rintro r w3 ⟨rfl, hb3⟩
        have k3 := Lib.hid (kr.out.below hb3 kr.out.lt)
        have b3 := Lib.hid (below_more br.out hb3 (Nat.le_refl _))
        clear hb3 hc
        go_wp2
        go_roundw
        case rel => exact ⟨k + 1, by omega, rfl, by go_num, k3, b3⟩
        case measure => simp [intOf]; omega
      · obtain rfl : k = n := by omega
        go_wp2
        go_ret2
        exact ⟨rfl, br.out⟩
set_option maxHeartbeats 2000000 in
theorem RingAfter_s (s0 : ByteArray) (a1 a2 s c : Int) (w : World) (z0 : s0.size ≤ maxLen) :
    Calls Try.prog 20 #[modeV s0 a1 a2, .int .i64 s, .int .i64 c] w fun e w' => e = .returned (.tuple #[.int .i64 (raL s0 a1 a2 s c).1, .int .i64 (raL s0 a1 a2 s c).2]) ∧ Below w.heap.size w w' := by
  have hk := Lib.hid (Blk.new w 34 #[.string s0, .int .i64 a1, .int .i64 a2])
  have hb0 := Lib.hid ((Below.refl w.heap.size w).alloc (Nat.le_refl _) (.cells #[.string s0, .int .i64 a1, .int .i64 a2] 34))
  cases h : modeB s0 a1 a2
  · simp only [raL, h]
    go_enter Try.func20, Try.ntmps20
    go_wp2_with fail
    refine (modeone_is h _ z0 hk.out).mono ?_
    rintro r w' ⟨rfl, rfl⟩
    go_wp2
    go_ret2
    exact ⟨rfl, hb0.out⟩
  cases g : inB s 0 1000000
  · rw [show raL s0 a1 a2 s c = (0, 2) by simp [raL, h, g]]
    go_enter Try.func20, Try.ntmps20
    go_wp2_with fail
    refine (modeone_is h _ z0 hk.out).mono ?_
    rintro r w' ⟨rfl, rfl⟩
    go_wp2_with (first | (go_at_call 70; refine (l16Strength_any _ _).mono ?_; rintro e w' ⟨rfl, rfl⟩) | (go_at_call 71; refine (l00In_any _ _ _ _).mono ?_; rintro e w' ⟨rfl, rfl⟩))
    go_ret2
    exact ⟨rfl, hb0.out⟩
  cases g2 : inB c 0 1000
  · rw [show raL s0 a1 a2 s c = (0, 2) by simp [raL, h, g2]]
    go_enter Try.func20, Try.ntmps20
    go_wp2_with fail
    refine (modeone_is h _ z0 hk.out).mono ?_
    rintro r w' ⟨rfl, rfl⟩
    go_wp2_with (first | (go_at_call 70; refine (l16Strength_any _ _).mono ?_; rintro e w' ⟨rfl, rfl⟩) | (go_at_call 71; refine (l00In_any _ _ _ _).mono ?_; rintro e w' ⟨rfl, rfl⟩))
    go_ret2
    exact ⟨rfl, hb0.out⟩
  · have q := modeB_t h
    have q2 := inB_t q.2.2
    have Q2 := Lib.hid q.2.2
    have gs := inB_t g
    have gc := inB_t g2
    rw [show raL s0 a1 a2 s c = (ringN s a2 c.toNat, 0) by simp [raL, h, g, g2]]
    obtain ⟨n, rfl⟩ : ∃ n : Nat, c = n := ⟨c.toNat, by omega⟩
    rw [Int.toNat_natCast]
    go_enter Try.func20, Try.ntmps20
    go_wp2_with fail
    refine (modeone_is h _ z0 hk.out).mono ?_
    rintro r w' ⟨rfl, rfl⟩
    generalize w.alloc (.cells #[.string s0, .int .i64 a1, .int .i64 a2] 34) = w1 at hk hb0 ⊢
    have k1 := hk
    have b1 := hb0
    clear hk hb0
    go_wp2_with (first | (go_at_call 70; refine (l16Strength_any _ _).mono ?_; rintro e w' ⟨rfl, rfl⟩) | (go_at_call 71; refine (l00In_any _ _ _ _).mono ?_; rintro e w' ⟨rfl, rfl⟩))
    clear h g g2 q
    go_loopw [1, 8] (fun x i wr => ∃ k : Nat, k ≤ n ∧ x = .int .i64 (ringN s a2 k) ∧ i = .int .i64 k ∧ Hid (Blk wr w.heap.size 34 #[.string s0, .int .i64 a1, .int .i64 a2]) ∧ Hid (Below w.heap.size w wr)) (fun _ i _ => n - (intOf i).toNat)
    case atStart => exact ⟨0, by omega, rfl, rfl, k1, b1⟩
    case round =>
      obtain ⟨k, hk, rfl, rfl, kr, br⟩ := hrel
      have hc := kr.out.cell
      have rb := ringN_bd gs.1 gs.2 q2.1 q2.2 k
      by_cases hlt : k < n
      · go_wp2_with fail
        refine (fall_s _ _ _ Q2.out rb.1 rb.2).mono ?_
        rintro r w' ⟨rfl, rfl⟩
        have k3 := kr
        have b3 := br
        clear hc
        go_wp2
        go_roundw
        case rel => exact ⟨k + 1, by omega, rfl, by go_num, k3, b3⟩
        case measure => simp [intOf]; omega
      · obtain rfl : k = n := by omega
        go_wp2
        go_ret2
        exact ⟨rfl, br.out⟩
end Go.Proofs.Ytbgbhhaheogjcaa
