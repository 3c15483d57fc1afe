/- Contracts of the structs' conversions and validity tests. -/
import Derived.Test.YtbgbhhaheogjcaaNames
import Derived.Test.YtbgbhhaheogjcaaMem
set_option linter.unusedVariables false
namespace Go.Proofs.Ytbgbhhaheogjcaa
open Go.RowKit

theorem isHole_any (n : Int) (w : World) :
    Calls Try.prog 66 #[.int .i64 n] w fun e w' => e = .returned (.bool (inB n (20) (200))) ∧ w = w' := by
  go_enter Try.func66, Try.ntmps66
  go_wp2_with (go_at_call 75; refine (within_any _ _ _ _).mono ?_; rintro e w' ⟨rfl, rfl⟩)
  go_ret
  exact ⟨rfl, rfl⟩
theorem isWay_any (n : Int) (w : World) :
    Calls Try.prog 67 #[.int .i64 n] w fun e w' => e = .returned (.bool (inB n (0) (1000))) ∧ w = w' := by
  go_enter Try.func67, Try.ntmps67
  go_wp2_with (go_at_call 75; refine (within_any _ _ _ _).mono ?_; rintro e w' ⟨rfl, rfl⟩)
  go_ret
  exact ⟨rfl, rfl⟩
theorem l12Hole_any (n : Int) (w : World) :
    Calls Try.prog 62 #[.int .i64 n] w fun e w' => e = .returned (.bool (inB n (20) (200))) ∧ w = w' := by
  go_enter Try.func62, Try.ntmps62
  go_wp2_with (go_at_call 71; refine (l00In_any _ _ _ _).mono ?_; rintro e w' ⟨rfl, rfl⟩)
  go_ret
  exact ⟨rfl, rfl⟩
theorem l12Way_any (n : Int) (w : World) :
    Calls Try.prog 63 #[.int .i64 n] w fun e w' => e = .returned (.bool (inB n (0) (1000))) ∧ w = w' := by
  go_enter Try.func63, Try.ntmps63
  go_wp2_with (go_at_call 71; refine (l00In_any _ _ _ _).mono ?_; rintro e w' ⟨rfl, rfl⟩)
  go_ret
  exact ⟨rfl, rfl⟩
theorem isGrams_any (n : Int) (w : World) :
    Calls Try.prog 120 #[.int .i64 n] w fun e w' => e = .returned (.bool (inB n (1) (10000))) ∧ w = w' := by
  go_enter Try.func120, Try.ntmps120
  go_wp2_with (go_at_call 75; refine (within_any _ _ _ _).mono ?_; rintro e w' ⟨rfl, rfl⟩)
  go_ret
  exact ⟨rfl, rfl⟩
theorem isHeat_any (n : Int) (w : World) :
    Calls Try.prog 121 #[.int .i64 n] w fun e w' => e = .returned (.bool (inB n (20) (95))) ∧ w = w' := by
  go_enter Try.func121, Try.ntmps121
  go_wp2_with (go_at_call 75; refine (within_any _ _ _ _).mono ?_; rintro e w' ⟨rfl, rfl⟩)
  go_ret
  exact ⟨rfl, rfl⟩
theorem l14Grams_any (n : Int) (w : World) :
    Calls Try.prog 118 #[.int .i64 n] w fun e w' => e = .returned (.bool (inB n (1) (10000))) ∧ w = w' := by
  go_enter Try.func118, Try.ntmps118
  go_wp2_with (go_at_call 71; refine (l00In_any _ _ _ _).mono ?_; rintro e w' ⟨rfl, rfl⟩)
  go_ret
  exact ⟨rfl, rfl⟩
theorem l14Heat_any (n : Int) (w : World) :
    Calls Try.prog 119 #[.int .i64 n] w fun e w' => e = .returned (.bool (inB n (20) (95))) ∧ w = w' := by
  go_enter Try.func119, Try.ntmps119
  go_wp2_with (go_at_call 71; refine (l00In_any _ _ _ _).mono ?_; rintro e w' ⟨rfl, rfl⟩)
  go_ret
  exact ⟨rfl, rfl⟩
theorem isStrength_any (n : Int) (w : World) :
    Calls Try.prog 74 #[.int .i64 n] w fun e w' => e = .returned (.bool (inB n (0) (1000000))) ∧ w = w' := by
  go_enter Try.func74, Try.ntmps74
  go_wp2_with (go_at_call 75; refine (within_any _ _ _ _).mono ?_; rintro e w' ⟨rfl, rfl⟩)
  go_ret
  exact ⟨rfl, rfl⟩
theorem l16Strength_any (n : Int) (w : World) :
    Calls Try.prog 70 #[.int .i64 n] w fun e w' => e = .returned (.bool (inB n (0) (1000000))) ∧ w = w' := by
  go_enter Try.func70, Try.ntmps70
  go_wp2_with (go_at_call 71; refine (l00In_any _ _ _ _).mono ?_; rintro e w' ⟨rfl, rfl⟩)
  go_ret
  exact ⟨rfl, rfl⟩
abbrev modeV (s0 : ByteArray) (a1 : Int) (a2 : Int) : Value := .agg #[.string s0, .int .i64 a1, .int .i64 a2]
abbrev modeC (s0 : ByteArray) (a1 : Int) (a2 : Int) : Array Value := #[.string s0, .int .i64 a1, .int .i64 a2]
def modeB (s0 : ByteArray) (a1 : Int) (a2 : Int) : Bool := nameB s0 && (inB a1 1000 100000 && (inB a2 1 500))
theorem modeB_t {s0 : ByteArray} {a1 : Int} {a2 : Int} (h : modeB s0 a1 a2 = true) : nameB s0 = true ∧ inB a1 1000 100000 = true ∧ inB a2 1 500 = true := by
  simpa [modeB, Bool.and_eq_true] using h
theorem toMode_any (s0 : ByteArray) (a1 : Int) (a2 : Int) (w : World) :
    Calls Try.prog 21 #[modeV s0 a1 a2] w fun e w' => e = .returned (modeV s0 a1 a2) ∧ Below w.heap.size w w' := by
  go_enter Try.func21, Try.ntmps21
  go_wp2
  refine bodyPost_ret (v := modeV s0 a1 a2) (by simp [results, Try.results21, go_sem]) rfl ⟨rfl, ?_⟩
  exact (((Below.refl _ _).alloc (Nat.le_refl _) _).alloc (by simp) _).alloc (by simp; omega) _
theorem szMode_ok (s0 : ByteArray) (a1 : Int) (a2 : Int) (l : Int) (w : World) (l0 : 0 ≤ l) (l1 : l ≤ 1048576) (z0 : s0.size ≤ maxLen) (h : (s0.size : Int) ≤ l) :
    Calls Try.prog 19 #[modeV s0 a1 a2, .int .i64 l] w fun e w' => e = .returned (.int .i64 (l - (s0.size : Int))) ∧ Below w.heap.size w w' := by
  unfold maxLen at z0
  go_enter Try.func19, Try.ntmps19
  go_wp2
  go_ret
  exact ⟨rfl, (Below.refl _ _).alloc (Nat.le_refl _) _⟩
theorem szMode_no (s0 : ByteArray) (a1 : Int) (a2 : Int) (l : Int) (w : World) (l0 : 0 ≤ l) (l1 : l ≤ 1048576) (z0 : s0.size ≤ maxLen) (h : l < (s0.size : Int)) :
    Calls Try.prog 19 #[modeV s0 a1 a2, .int .i64 l] w fun e w' => e = .returned (.int .i64 (-1)) ∧ Below w.heap.size w w' := by
  unfold maxLen at z0
  go_enter Try.func19, Try.ntmps19
  go_wp2
  go_ret
  exact ⟨rfl, (Below.refl _ _).alloc (Nat.le_refl _) _⟩
set_option maxHeartbeats 1000000 in
theorem modevalid_any (s0 : ByteArray) (a1 : Int) (a2 : Int) (w : World) (z0 : s0.size ≤ maxLen) :
    Calls Try.prog 73 #[modeV s0 a1 a2] w fun e w' => e = .returned (.bool (modeB s0 a1 a2)) ∧ Below w.heap.size w w' := by
  cases h0 : nameB s0
  · rw [show modeB s0 a1 a2 = false by simp [modeB, h0]]
    go_enter Try.func73, Try.ntmps73
    go_wp2_with (first | (go_at_call 84; refine (IsName_any _ _ (by assumption)).mono ?_; rintro e w' ⟨rfl, rfl⟩) | (go_at_call 116; refine (isTone_any _ _).mono ?_; rintro e w' ⟨rfl, rfl⟩) | (go_at_call 75; refine (within_any _ _ _ _).mono ?_; rintro e w' ⟨rfl, rfl⟩))
    go_ret
    exact ⟨rfl, (Below.refl _ _).alloc (Nat.le_refl _) _⟩
  cases h1 : inB a1 1000 100000
  · rw [show modeB s0 a1 a2 = false by simp [modeB, h1]]
    go_enter Try.func73, Try.ntmps73
    go_wp2_with (first | (go_at_call 84; refine (IsName_any _ _ (by assumption)).mono ?_; rintro e w' ⟨rfl, rfl⟩) | (go_at_call 116; refine (isTone_any _ _).mono ?_; rintro e w' ⟨rfl, rfl⟩) | (go_at_call 75; refine (within_any _ _ _ _).mono ?_; rintro e w' ⟨rfl, rfl⟩))
    go_ret
    exact ⟨rfl, (Below.refl _ _).alloc (Nat.le_refl _) _⟩
  cases h2 : inB a2 1 500
  · rw [show modeB s0 a1 a2 = false by simp [modeB, h2]]
    go_enter Try.func73, Try.ntmps73
    go_wp2_with (first | (go_at_call 84; refine (IsName_any _ _ (by assumption)).mono ?_; rintro e w' ⟨rfl, rfl⟩) | (go_at_call 116; refine (isTone_any _ _).mono ?_; rintro e w' ⟨rfl, rfl⟩) | (go_at_call 75; refine (within_any _ _ _ _).mono ?_; rintro e w' ⟨rfl, rfl⟩))
    go_ret
    exact ⟨rfl, (Below.refl _ _).alloc (Nat.le_refl _) _⟩
  rw [show modeB s0 a1 a2 = true by simp [modeB, h0, h1, h2]]
  go_enter Try.func73, Try.ntmps73
  go_wp2_with (first | (go_at_call 84; refine (IsName_any _ _ (by assumption)).mono ?_; rintro e w' ⟨rfl, rfl⟩) | (go_at_call 116; refine (isTone_any _ _).mono ?_; rintro e w' ⟨rfl, rfl⟩) | (go_at_call 75; refine (within_any _ _ _ _).mono ?_; rintro e w' ⟨rfl, rfl⟩))
  go_ret
  exact ⟨rfl, (Below.refl _ _).alloc (Nat.le_refl _) _⟩
theorem modevalid_is {s0 : ByteArray} {a1 : Int} {a2 : Int} {b : Bool} (h : modeB s0 a1 a2 = b) (w : World) (z0 : s0.size ≤ maxLen) :
    Calls Try.prog 73 #[modeV s0 a1 a2] w fun e w' => e = .returned (.bool b) ∧ Below w.heap.size w w' := by
  rw [← h]; exact modevalid_any _ _ _ w z0
set_option maxHeartbeats 1000000 in
theorem modeone_any (s0 : ByteArray) (a1 : Int) (a2 : Int) (N : Nat) (w : World) (z0 : s0.size ≤ maxLen) (hk : Blk w N 34 #[.string s0, .int .i64 a1, .int .i64 a2]) :
    Calls Try.prog 69 #[.pointer (some ⟨N, 0, none⟩)] w fun e w' => e = .returned (.bool (modeB s0 a1 a2)) ∧ w = w' := by
  have hc := hk.cell
  cases h0 : nameB s0
  · rw [show modeB s0 a1 a2 = false by simp [modeB, h0]]
    go_enter Try.func69, Try.ntmps69
    go_wp2_with (first | (go_at_call 81; refine (l01Name_any _ _ (by assumption)).mono ?_; rintro e w' ⟨rfl, rfl⟩) | (go_at_call 114; refine (l16Tone_any _ _).mono ?_; rintro e w' ⟨rfl, rfl⟩) | (go_at_call 71; refine (l00In_any _ _ _ _).mono ?_; rintro e w' ⟨rfl, rfl⟩))
    go_ret
    exact ⟨rfl, rfl⟩
  cases h1 : inB a1 1000 100000
  · rw [show modeB s0 a1 a2 = false by simp [modeB, h1]]
    go_enter Try.func69, Try.ntmps69
    go_wp2_with (first | (go_at_call 81; refine (l01Name_any _ _ (by assumption)).mono ?_; rintro e w' ⟨rfl, rfl⟩) | (go_at_call 114; refine (l16Tone_any _ _).mono ?_; rintro e w' ⟨rfl, rfl⟩) | (go_at_call 71; refine (l00In_any _ _ _ _).mono ?_; rintro e w' ⟨rfl, rfl⟩))
    go_ret
    exact ⟨rfl, rfl⟩
  cases h2 : inB a2 1 500
  · rw [show modeB s0 a1 a2 = false by simp [modeB, h2]]
    go_enter Try.func69, Try.ntmps69
    go_wp2_with (first | (go_at_call 81; refine (l01Name_any _ _ (by assumption)).mono ?_; rintro e w' ⟨rfl, rfl⟩) | (go_at_call 114; refine (l16Tone_any _ _).mono ?_; rintro e w' ⟨rfl, rfl⟩) | (go_at_call 71; refine (l00In_any _ _ _ _).mono ?_; rintro e w' ⟨rfl, rfl⟩))
    go_ret
    exact ⟨rfl, rfl⟩
  rw [show modeB s0 a1 a2 = true by simp [modeB, h0, h1, h2]]
  go_enter Try.func69, Try.ntmps69
  go_wp2_with (first | (go_at_call 81; refine (l01Name_any _ _ (by assumption)).mono ?_; rintro e w' ⟨rfl, rfl⟩) | (go_at_call 114; refine (l16Tone_any _ _).mono ?_; rintro e w' ⟨rfl, rfl⟩) | (go_at_call 71; refine (l00In_any _ _ _ _).mono ?_; rintro e w' ⟨rfl, rfl⟩))
  go_ret
  exact ⟨rfl, rfl⟩
theorem modeone_is {s0 : ByteArray} {a1 : Int} {a2 : Int} {N : Nat} {b : Bool} (h : modeB s0 a1 a2 = b) (w : World) (z0 : s0.size ≤ maxLen) (hk : Blk w N 34 #[.string s0, .int .i64 a1, .int .i64 a2]) :
    Calls Try.prog 69 #[.pointer (some ⟨N, 0, none⟩)] w fun e w' => e = .returned (.bool b) ∧ w = w' := by
  rw [← h]; exact modeone_any _ _ _ N w z0 hk
abbrev potV (s0 : ByteArray) (a1 : Int) (a2 : Int) (a3 : Int) (a4 : Int) : Value := .agg #[.string s0, .int .i64 a1, .int .i64 a2, .int .i64 a3, .int .i64 a4]
abbrev potC (s0 : ByteArray) (a1 : Int) (a2 : Int) (a3 : Int) (a4 : Int) : Array Value := #[.string s0, .int .i64 a1, .int .i64 a2, .int .i64 a3, .int .i64 a4]
def potB (s0 : ByteArray) (a1 : Int) (a2 : Int) (a3 : Int) (a4 : Int) : Bool := nameB s0 && (inB a1 1 10000 && (inB a2 1 10000 && (inB a3 20 95 && (inB a4 0 1000))))
theorem potB_t {s0 : ByteArray} {a1 : Int} {a2 : Int} {a3 : Int} {a4 : Int} (h : potB s0 a1 a2 a3 a4 = true) : nameB s0 = true ∧ inB a1 1 10000 = true ∧ inB a2 1 10000 = true ∧ inB a3 20 95 = true ∧ inB a4 0 1000 = true := by
  simpa [potB, Bool.and_eq_true] using h
theorem toPot_any (s0 : ByteArray) (a1 : Int) (a2 : Int) (a3 : Int) (a4 : Int) (w : World) :
    Calls Try.prog 27 #[potV s0 a1 a2 a3 a4] w fun e w' => e = .returned (potV s0 a1 a2 a3 a4) ∧ Below w.heap.size w w' := by
  go_enter Try.func27, Try.ntmps27
  go_wp2
  refine bodyPost_ret (v := potV s0 a1 a2 a3 a4) (by simp [results, Try.results27, go_sem]) rfl ⟨rfl, ?_⟩
  exact (((Below.refl _ _).alloc (Nat.le_refl _) _).alloc (by simp) _).alloc (by simp; omega) _
theorem szPot_ok (s0 : ByteArray) (a1 : Int) (a2 : Int) (a3 : Int) (a4 : Int) (l : Int) (w : World) (l0 : 0 ≤ l) (l1 : l ≤ 1048576) (z0 : s0.size ≤ maxLen) (h : (s0.size : Int) ≤ l) :
    Calls Try.prog 25 #[potV s0 a1 a2 a3 a4, .int .i64 l] w fun e w' => e = .returned (.int .i64 (l - (s0.size : Int))) ∧ Below w.heap.size w w' := by
  unfold maxLen at z0
  go_enter Try.func25, Try.ntmps25
  go_wp2
  go_ret
  exact ⟨rfl, (Below.refl _ _).alloc (Nat.le_refl _) _⟩
theorem szPot_no (s0 : ByteArray) (a1 : Int) (a2 : Int) (a3 : Int) (a4 : Int) (l : Int) (w : World) (l0 : 0 ≤ l) (l1 : l ≤ 1048576) (z0 : s0.size ≤ maxLen) (h : l < (s0.size : Int)) :
    Calls Try.prog 25 #[potV s0 a1 a2 a3 a4, .int .i64 l] w fun e w' => e = .returned (.int .i64 (-1)) ∧ Below w.heap.size w w' := by
  unfold maxLen at z0
  go_enter Try.func25, Try.ntmps25
  go_wp2
  go_ret
  exact ⟨rfl, (Below.refl _ _).alloc (Nat.le_refl _) _⟩
set_option maxHeartbeats 1000000 in
theorem potvalid_any (s0 : ByteArray) (a1 : Int) (a2 : Int) (a3 : Int) (a4 : Int) (w : World) (z0 : s0.size ≤ maxLen) :
    Calls Try.prog 79 #[potV s0 a1 a2 a3 a4] w fun e w' => e = .returned (.bool (potB s0 a1 a2 a3 a4)) ∧ Below w.heap.size w w' := by
  cases h0 : nameB s0
  · rw [show potB s0 a1 a2 a3 a4 = false by simp [potB, h0]]
    go_enter Try.func79, Try.ntmps79
    go_wp2_with (first | (go_at_call 84; refine (IsName_any _ _ (by assumption)).mono ?_; rintro e w' ⟨rfl, rfl⟩) | (go_at_call 120; refine (isGrams_any _ _).mono ?_; rintro e w' ⟨rfl, rfl⟩) | (go_at_call 121; refine (isHeat_any _ _).mono ?_; rintro e w' ⟨rfl, rfl⟩) | (go_at_call 75; refine (within_any _ _ _ _).mono ?_; rintro e w' ⟨rfl, rfl⟩))
    go_ret
    exact ⟨rfl, (Below.refl _ _).alloc (Nat.le_refl _) _⟩
  cases h1 : inB a1 1 10000
  · rw [show potB s0 a1 a2 a3 a4 = false by simp [potB, h1]]
    go_enter Try.func79, Try.ntmps79
    go_wp2_with (first | (go_at_call 84; refine (IsName_any _ _ (by assumption)).mono ?_; rintro e w' ⟨rfl, rfl⟩) | (go_at_call 120; refine (isGrams_any _ _).mono ?_; rintro e w' ⟨rfl, rfl⟩) | (go_at_call 121; refine (isHeat_any _ _).mono ?_; rintro e w' ⟨rfl, rfl⟩) | (go_at_call 75; refine (within_any _ _ _ _).mono ?_; rintro e w' ⟨rfl, rfl⟩))
    go_ret
    exact ⟨rfl, (Below.refl _ _).alloc (Nat.le_refl _) _⟩
  cases h2 : inB a2 1 10000
  · rw [show potB s0 a1 a2 a3 a4 = false by simp [potB, h2]]
    go_enter Try.func79, Try.ntmps79
    go_wp2_with (first | (go_at_call 84; refine (IsName_any _ _ (by assumption)).mono ?_; rintro e w' ⟨rfl, rfl⟩) | (go_at_call 120; refine (isGrams_any _ _).mono ?_; rintro e w' ⟨rfl, rfl⟩) | (go_at_call 121; refine (isHeat_any _ _).mono ?_; rintro e w' ⟨rfl, rfl⟩) | (go_at_call 75; refine (within_any _ _ _ _).mono ?_; rintro e w' ⟨rfl, rfl⟩))
    go_ret
    exact ⟨rfl, (Below.refl _ _).alloc (Nat.le_refl _) _⟩
  cases h3 : inB a3 20 95
  · rw [show potB s0 a1 a2 a3 a4 = false by simp [potB, h3]]
    go_enter Try.func79, Try.ntmps79
    go_wp2_with (first | (go_at_call 84; refine (IsName_any _ _ (by assumption)).mono ?_; rintro e w' ⟨rfl, rfl⟩) | (go_at_call 120; refine (isGrams_any _ _).mono ?_; rintro e w' ⟨rfl, rfl⟩) | (go_at_call 121; refine (isHeat_any _ _).mono ?_; rintro e w' ⟨rfl, rfl⟩) | (go_at_call 75; refine (within_any _ _ _ _).mono ?_; rintro e w' ⟨rfl, rfl⟩))
    go_ret
    exact ⟨rfl, (Below.refl _ _).alloc (Nat.le_refl _) _⟩
  cases h4 : inB a4 0 1000
  · rw [show potB s0 a1 a2 a3 a4 = false by simp [potB, h4]]
    go_enter Try.func79, Try.ntmps79
    go_wp2_with (first | (go_at_call 84; refine (IsName_any _ _ (by assumption)).mono ?_; rintro e w' ⟨rfl, rfl⟩) | (go_at_call 120; refine (isGrams_any _ _).mono ?_; rintro e w' ⟨rfl, rfl⟩) | (go_at_call 121; refine (isHeat_any _ _).mono ?_; rintro e w' ⟨rfl, rfl⟩) | (go_at_call 75; refine (within_any _ _ _ _).mono ?_; rintro e w' ⟨rfl, rfl⟩))
    go_ret
    exact ⟨rfl, (Below.refl _ _).alloc (Nat.le_refl _) _⟩
  rw [show potB s0 a1 a2 a3 a4 = true by simp [potB, h0, h1, h2, h3, h4]]
  go_enter Try.func79, Try.ntmps79
  go_wp2_with (first | (go_at_call 84; refine (IsName_any _ _ (by assumption)).mono ?_; rintro e w' ⟨rfl, rfl⟩) | (go_at_call 120; refine (isGrams_any _ _).mono ?_; rintro e w' ⟨rfl, rfl⟩) | (go_at_call 121; refine (isHeat_any _ _).mono ?_; rintro e w' ⟨rfl, rfl⟩) | (go_at_call 75; refine (within_any _ _ _ _).mono ?_; rintro e w' ⟨rfl, rfl⟩))
  go_ret
  exact ⟨rfl, (Below.refl _ _).alloc (Nat.le_refl _) _⟩
theorem potvalid_is {s0 : ByteArray} {a1 : Int} {a2 : Int} {a3 : Int} {a4 : Int} {b : Bool} (h : potB s0 a1 a2 a3 a4 = b) (w : World) (z0 : s0.size ≤ maxLen) :
    Calls Try.prog 79 #[potV s0 a1 a2 a3 a4] w fun e w' => e = .returned (.bool b) ∧ Below w.heap.size w w' := by
  rw [← h]; exact potvalid_any _ _ _ _ _ w z0
set_option maxHeartbeats 1000000 in
theorem potone_any (s0 : ByteArray) (a1 : Int) (a2 : Int) (a3 : Int) (a4 : Int) (N : Nat) (w : World) (z0 : s0.size ≤ maxLen) (hk : Blk w N 41 #[.string s0, .int .i64 a1, .int .i64 a2, .int .i64 a3, .int .i64 a4]) :
    Calls Try.prog 77 #[.pointer (some ⟨N, 0, none⟩)] w fun e w' => e = .returned (.bool (potB s0 a1 a2 a3 a4)) ∧ w = w' := by
  have hc := hk.cell
  cases h0 : nameB s0
  · rw [show potB s0 a1 a2 a3 a4 = false by simp [potB, h0]]
    go_enter Try.func77, Try.ntmps77
    go_wp2_with (first | (go_at_call 81; refine (l01Name_any _ _ (by assumption)).mono ?_; rintro e w' ⟨rfl, rfl⟩) | (go_at_call 118; refine (l14Grams_any _ _).mono ?_; rintro e w' ⟨rfl, rfl⟩) | (go_at_call 119; refine (l14Heat_any _ _).mono ?_; rintro e w' ⟨rfl, rfl⟩) | (go_at_call 71; refine (l00In_any _ _ _ _).mono ?_; rintro e w' ⟨rfl, rfl⟩))
    go_ret
    exact ⟨rfl, rfl⟩
  cases h1 : inB a1 1 10000
  · rw [show potB s0 a1 a2 a3 a4 = false by simp [potB, h1]]
    go_enter Try.func77, Try.ntmps77
    go_wp2_with (first | (go_at_call 81; refine (l01Name_any _ _ (by assumption)).mono ?_; rintro e w' ⟨rfl, rfl⟩) | (go_at_call 118; refine (l14Grams_any _ _).mono ?_; rintro e w' ⟨rfl, rfl⟩) | (go_at_call 119; refine (l14Heat_any _ _).mono ?_; rintro e w' ⟨rfl, rfl⟩) | (go_at_call 71; refine (l00In_any _ _ _ _).mono ?_; rintro e w' ⟨rfl, rfl⟩))
    go_ret
    exact ⟨rfl, rfl⟩
  cases h2 : inB a2 1 10000
  · rw [show potB s0 a1 a2 a3 a4 = false by simp [potB, h2]]
    go_enter Try.func77, Try.ntmps77
    go_wp2_with (first | (go_at_call 81; refine (l01Name_any _ _ (by assumption)).mono ?_; rintro e w' ⟨rfl, rfl⟩) | (go_at_call 118; refine (l14Grams_any _ _).mono ?_; rintro e w' ⟨rfl, rfl⟩) | (go_at_call 119; refine (l14Heat_any _ _).mono ?_; rintro e w' ⟨rfl, rfl⟩) | (go_at_call 71; refine (l00In_any _ _ _ _).mono ?_; rintro e w' ⟨rfl, rfl⟩))
    go_ret
    exact ⟨rfl, rfl⟩
  cases h3 : inB a3 20 95
  · rw [show potB s0 a1 a2 a3 a4 = false by simp [potB, h3]]
    go_enter Try.func77, Try.ntmps77
    go_wp2_with (first | (go_at_call 81; refine (l01Name_any _ _ (by assumption)).mono ?_; rintro e w' ⟨rfl, rfl⟩) | (go_at_call 118; refine (l14Grams_any _ _).mono ?_; rintro e w' ⟨rfl, rfl⟩) | (go_at_call 119; refine (l14Heat_any _ _).mono ?_; rintro e w' ⟨rfl, rfl⟩) | (go_at_call 71; refine (l00In_any _ _ _ _).mono ?_; rintro e w' ⟨rfl, rfl⟩))
    go_ret
    exact ⟨rfl, rfl⟩
  cases h4 : inB a4 0 1000
  · rw [show potB s0 a1 a2 a3 a4 = false by simp [potB, h4]]
    go_enter Try.func77, Try.ntmps77
    go_wp2_with (first | (go_at_call 81; refine (l01Name_any _ _ (by assumption)).mono ?_; rintro e w' ⟨rfl, rfl⟩) | (go_at_call 118; refine (l14Grams_any _ _).mono ?_; rintro e w' ⟨rfl, rfl⟩) | (go_at_call 119; refine (l14Heat_any _ _).mono ?_; rintro e w' ⟨rfl, rfl⟩) | (go_at_call 71; refine (l00In_any _ _ _ _).mono ?_; rintro e w' ⟨rfl, rfl⟩))
    go_ret
    exact ⟨rfl, rfl⟩
  rw [show potB s0 a1 a2 a3 a4 = true by simp [potB, h0, h1, h2, h3, h4]]
  go_enter Try.func77, Try.ntmps77
  go_wp2_with (first | (go_at_call 81; refine (l01Name_any _ _ (by assumption)).mono ?_; rintro e w' ⟨rfl, rfl⟩) | (go_at_call 118; refine (l14Grams_any _ _).mono ?_; rintro e w' ⟨rfl, rfl⟩) | (go_at_call 119; refine (l14Heat_any _ _).mono ?_; rintro e w' ⟨rfl, rfl⟩) | (go_at_call 71; refine (l00In_any _ _ _ _).mono ?_; rintro e w' ⟨rfl, rfl⟩))
  go_ret
  exact ⟨rfl, rfl⟩
theorem potone_is {s0 : ByteArray} {a1 : Int} {a2 : Int} {a3 : Int} {a4 : Int} {N : Nat} {b : Bool} (h : potB s0 a1 a2 a3 a4 = b) (w : World) (z0 : s0.size ≤ maxLen) (hk : Blk w N 41 #[.string s0, .int .i64 a1, .int .i64 a2, .int .i64 a3, .int .i64 a4]) :
    Calls Try.prog 77 #[.pointer (some ⟨N, 0, none⟩)] w fun e w' => e = .returned (.bool b) ∧ w = w' := by
  rw [← h]; exact potone_any _ _ _ _ _ N w z0 hk
abbrev pegV (s0 : ByteArray) (a1 : Int) (a2 : Int) (a3 : Int) : Value := .agg #[.string s0, .int .i64 a1, .int .i64 a2, .int .i64 a3]
abbrev pegC (s0 : ByteArray) (a1 : Int) (a2 : Int) (a3 : Int) : Array Value := #[.string s0, .int .i64 a1, .int .i64 a2, .int .i64 a3]
def pegB (s0 : ByteArray) (a1 : Int) (a2 : Int) (a3 : Int) : Bool := nameB s0 && (inB a1 20 200 && (inB a2 100 1000 && (inB a3 10 100)))
theorem pegB_t {s0 : ByteArray} {a1 : Int} {a2 : Int} {a3 : Int} (h : pegB s0 a1 a2 a3 = true) : nameB s0 = true ∧ inB a1 20 200 = true ∧ inB a2 100 1000 = true ∧ inB a3 10 100 = true := by
  simpa [pegB, Bool.and_eq_true] using h
theorem toPeg_any (s0 : ByteArray) (a1 : Int) (a2 : Int) (a3 : Int) (w : World) :
    Calls Try.prog 17 #[pegV s0 a1 a2 a3] w fun e w' => e = .returned (pegV s0 a1 a2 a3) ∧ Below w.heap.size w w' := by
  go_enter Try.func17, Try.ntmps17
  go_wp2
  refine bodyPost_ret (v := pegV s0 a1 a2 a3) (by simp [results, Try.results17, go_sem]) rfl ⟨rfl, ?_⟩
  exact (((Below.refl _ _).alloc (Nat.le_refl _) _).alloc (by simp) _).alloc (by simp; omega) _
theorem szPeg_ok (s0 : ByteArray) (a1 : Int) (a2 : Int) (a3 : Int) (l : Int) (w : World) (l0 : 0 ≤ l) (l1 : l ≤ 1048576) (z0 : s0.size ≤ maxLen) (h : (s0.size : Int) ≤ l) :
    Calls Try.prog 15 #[pegV s0 a1 a2 a3, .int .i64 l] w fun e w' => e = .returned (.int .i64 (l - (s0.size : Int))) ∧ Below w.heap.size w w' := by
  unfold maxLen at z0
  go_enter Try.func15, Try.ntmps15
  go_wp2
  go_ret
  exact ⟨rfl, (Below.refl _ _).alloc (Nat.le_refl _) _⟩
theorem szPeg_no (s0 : ByteArray) (a1 : Int) (a2 : Int) (a3 : Int) (l : Int) (w : World) (l0 : 0 ≤ l) (l1 : l ≤ 1048576) (z0 : s0.size ≤ maxLen) (h : l < (s0.size : Int)) :
    Calls Try.prog 15 #[pegV s0 a1 a2 a3, .int .i64 l] w fun e w' => e = .returned (.int .i64 (-1)) ∧ Below w.heap.size w w' := by
  unfold maxLen at z0
  go_enter Try.func15, Try.ntmps15
  go_wp2
  go_ret
  exact ⟨rfl, (Below.refl _ _).alloc (Nat.le_refl _) _⟩
set_option maxHeartbeats 1000000 in
theorem pegvalid_any (s0 : ByteArray) (a1 : Int) (a2 : Int) (a3 : Int) (w : World) (z0 : s0.size ≤ maxLen) :
    Calls Try.prog 65 #[pegV s0 a1 a2 a3] w fun e w' => e = .returned (.bool (pegB s0 a1 a2 a3)) ∧ Below w.heap.size w w' := by
  cases h0 : nameB s0
  · rw [show pegB s0 a1 a2 a3 = false by simp [pegB, h0]]
    go_enter Try.func65, Try.ntmps65
    go_wp2_with (first | (go_at_call 84; refine (IsName_any _ _ (by assumption)).mono ?_; rintro e w' ⟨rfl, rfl⟩) | (go_at_call 66; refine (isHole_any _ _).mono ?_; rintro e w' ⟨rfl, rfl⟩) | (go_at_call 75; refine (within_any _ _ _ _).mono ?_; rintro e w' ⟨rfl, rfl⟩))
    go_ret
    exact ⟨rfl, (Below.refl _ _).alloc (Nat.le_refl _) _⟩
  cases h1 : inB a1 20 200
  · rw [show pegB s0 a1 a2 a3 = false by simp [pegB, h1]]
    go_enter Try.func65, Try.ntmps65
    go_wp2_with (first | (go_at_call 84; refine (IsName_any _ _ (by assumption)).mono ?_; rintro e w' ⟨rfl, rfl⟩) | (go_at_call 66; refine (isHole_any _ _).mono ?_; rintro e w' ⟨rfl, rfl⟩) | (go_at_call 75; refine (within_any _ _ _ _).mono ?_; rintro e w' ⟨rfl, rfl⟩))
    go_ret
    exact ⟨rfl, (Below.refl _ _).alloc (Nat.le_refl _) _⟩
  cases h2 : inB a2 100 1000
  · rw [show pegB s0 a1 a2 a3 = false by simp [pegB, h2]]
    go_enter Try.func65, Try.ntmps65
    go_wp2_with (first | (go_at_call 84; refine (IsName_any _ _ (by assumption)).mono ?_; rintro e w' ⟨rfl, rfl⟩) | (go_at_call 66; refine (isHole_any _ _).mono ?_; rintro e w' ⟨rfl, rfl⟩) | (go_at_call 75; refine (within_any _ _ _ _).mono ?_; rintro e w' ⟨rfl, rfl⟩))
    go_ret
    exact ⟨rfl, (Below.refl _ _).alloc (Nat.le_refl _) _⟩
  cases h3 : inB a3 10 100
  · rw [show pegB s0 a1 a2 a3 = false by simp [pegB, h3]]
    go_enter Try.func65, Try.ntmps65
    go_wp2_with (first | (go_at_call 84; refine (IsName_any _ _ (by assumption)).mono ?_; rintro e w' ⟨rfl, rfl⟩) | (go_at_call 66; refine (isHole_any _ _).mono ?_; rintro e w' ⟨rfl, rfl⟩) | (go_at_call 75; refine (within_any _ _ _ _).mono ?_; rintro e w' ⟨rfl, rfl⟩))
    go_ret
    exact ⟨rfl, (Below.refl _ _).alloc (Nat.le_refl _) _⟩
  rw [show pegB s0 a1 a2 a3 = true by simp [pegB, h0, h1, h2, h3]]
  go_enter Try.func65, Try.ntmps65
  go_wp2_with (first | (go_at_call 84; refine (IsName_any _ _ (by assumption)).mono ?_; rintro e w' ⟨rfl, rfl⟩) | (go_at_call 66; refine (isHole_any _ _).mono ?_; rintro e w' ⟨rfl, rfl⟩) | (go_at_call 75; refine (within_any _ _ _ _).mono ?_; rintro e w' ⟨rfl, rfl⟩))
  go_ret
  exact ⟨rfl, (Below.refl _ _).alloc (Nat.le_refl _) _⟩
theorem pegvalid_is {s0 : ByteArray} {a1 : Int} {a2 : Int} {a3 : Int} {b : Bool} (h : pegB s0 a1 a2 a3 = b) (w : World) (z0 : s0.size ≤ maxLen) :
    Calls Try.prog 65 #[pegV s0 a1 a2 a3] w fun e w' => e = .returned (.bool b) ∧ Below w.heap.size w w' := by
  rw [← h]; exact pegvalid_any _ _ _ _ w z0
set_option maxHeartbeats 1000000 in
theorem pegone_any (s0 : ByteArray) (a1 : Int) (a2 : Int) (a3 : Int) (N : Nat) (w : World) (z0 : s0.size ≤ maxLen) (hk : Blk w N 27 #[.string s0, .int .i64 a1, .int .i64 a2, .int .i64 a3]) :
    Calls Try.prog 61 #[.pointer (some ⟨N, 0, none⟩)] w fun e w' => e = .returned (.bool (pegB s0 a1 a2 a3)) ∧ w = w' := by
  have hc := hk.cell
  cases h0 : nameB s0
  · rw [show pegB s0 a1 a2 a3 = false by simp [pegB, h0]]
    go_enter Try.func61, Try.ntmps61
    go_wp2_with (first | (go_at_call 81; refine (l01Name_any _ _ (by assumption)).mono ?_; rintro e w' ⟨rfl, rfl⟩) | (go_at_call 62; refine (l12Hole_any _ _).mono ?_; rintro e w' ⟨rfl, rfl⟩) | (go_at_call 71; refine (l00In_any _ _ _ _).mono ?_; rintro e w' ⟨rfl, rfl⟩))
    go_ret
    exact ⟨rfl, rfl⟩
  cases h1 : inB a1 20 200
  · rw [show pegB s0 a1 a2 a3 = false by simp [pegB, h1]]
    go_enter Try.func61, Try.ntmps61
    go_wp2_with (first | (go_at_call 81; refine (l01Name_any _ _ (by assumption)).mono ?_; rintro e w' ⟨rfl, rfl⟩) | (go_at_call 62; refine (l12Hole_any _ _).mono ?_; rintro e w' ⟨rfl, rfl⟩) | (go_at_call 71; refine (l00In_any _ _ _ _).mono ?_; rintro e w' ⟨rfl, rfl⟩))
    go_ret
    exact ⟨rfl, rfl⟩
  cases h2 : inB a2 100 1000
  · rw [show pegB s0 a1 a2 a3 = false by simp [pegB, h2]]
    go_enter Try.func61, Try.ntmps61
    go_wp2_with (first | (go_at_call 81; refine (l01Name_any _ _ (by assumption)).mono ?_; rintro e w' ⟨rfl, rfl⟩) | (go_at_call 62; refine (l12Hole_any _ _).mono ?_; rintro e w' ⟨rfl, rfl⟩) | (go_at_call 71; refine (l00In_any _ _ _ _).mono ?_; rintro e w' ⟨rfl, rfl⟩))
    go_ret
    exact ⟨rfl, rfl⟩
  cases h3 : inB a3 10 100
  · rw [show pegB s0 a1 a2 a3 = false by simp [pegB, h3]]
    go_enter Try.func61, Try.ntmps61
    go_wp2_with (first | (go_at_call 81; refine (l01Name_any _ _ (by assumption)).mono ?_; rintro e w' ⟨rfl, rfl⟩) | (go_at_call 62; refine (l12Hole_any _ _).mono ?_; rintro e w' ⟨rfl, rfl⟩) | (go_at_call 71; refine (l00In_any _ _ _ _).mono ?_; rintro e w' ⟨rfl, rfl⟩))
    go_ret
    exact ⟨rfl, rfl⟩
  rw [show pegB s0 a1 a2 a3 = true by simp [pegB, h0, h1, h2, h3]]
  go_enter Try.func61, Try.ntmps61
  go_wp2_with (first | (go_at_call 81; refine (l01Name_any _ _ (by assumption)).mono ?_; rintro e w' ⟨rfl, rfl⟩) | (go_at_call 62; refine (l12Hole_any _ _).mono ?_; rintro e w' ⟨rfl, rfl⟩) | (go_at_call 71; refine (l00In_any _ _ _ _).mono ?_; rintro e w' ⟨rfl, rfl⟩))
  go_ret
  exact ⟨rfl, rfl⟩
theorem pegone_is {s0 : ByteArray} {a1 : Int} {a2 : Int} {a3 : Int} {N : Nat} {b : Bool} (h : pegB s0 a1 a2 a3 = b) (w : World) (z0 : s0.size ≤ maxLen) (hk : Blk w N 27 #[.string s0, .int .i64 a1, .int .i64 a2, .int .i64 a3]) :
    Calls Try.prog 61 #[.pointer (some ⟨N, 0, none⟩)] w fun e w' => e = .returned (.bool b) ∧ w = w' := by
  rw [← h]; exact pegone_any _ _ _ _ N w z0 hk
end Go.Proofs.Ytbgbhhaheogjcaa
