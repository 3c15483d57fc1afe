/- Contracts of the structs' conversions and validity tests. -/
import Derived.Test.YtmngjlamnkkaeaaNames
import Derived.Test.YtmngjlamnkkaeaaMem
set_option linter.unusedVariables false
namespace Go.Proofs.Ytmngjlamnkkaeaa
open Go.RowKit

theorem isGrams_any (n : Int) (w : World) :
    Calls Try.prog 20 #[.int .i64 n] w fun e w' => e = .returned (.bool (inB n (1) (10000))) ∧ w = w' := by
  go_enter Try.func20, Try.ntmps20
  go_wp2_with (go_at_call 22; refine (within_any _ _ _ _).mono ?_; rintro e w' ⟨rfl, rfl⟩)
  go_ret
  exact ⟨rfl, rfl⟩
theorem isHeat_any (n : Int) (w : World) :
    Calls Try.prog 21 #[.int .i64 n] w fun e w' => e = .returned (.bool (inB n (20) (95))) ∧ w = w' := by
  go_enter Try.func21, Try.ntmps21
  go_wp2_with (go_at_call 22; refine (within_any _ _ _ _).mono ?_; rintro e w' ⟨rfl, rfl⟩)
  go_ret
  exact ⟨rfl, rfl⟩
theorem l14Grams_any (n : Int) (w : World) :
    Calls Try.prog 15 #[.int .i64 n] w fun e w' => e = .returned (.bool (inB n (1) (10000))) ∧ w = w' := by
  go_enter Try.func15, Try.ntmps15
  go_wp2_with (go_at_call 17; refine (l00In_any _ _ _ _).mono ?_; rintro e w' ⟨rfl, rfl⟩)
  go_ret
  exact ⟨rfl, rfl⟩
theorem l14Heat_any (n : Int) (w : World) :
    Calls Try.prog 16 #[.int .i64 n] w fun e w' => e = .returned (.bool (inB n (20) (95))) ∧ w = w' := by
  go_enter Try.func16, Try.ntmps16
  go_wp2_with (go_at_call 17; refine (l00In_any _ _ _ _).mono ?_; rintro e w' ⟨rfl, rfl⟩)
  go_ret
  exact ⟨rfl, rfl⟩
abbrev potV (s0 : ByteArray) (a1 : Int) (a2 : Int) (a3 : Int) (a4 : Int) : Value := .agg #[.string s0, .int .i64 a1, .int .i64 a2, .int .i64 a3, .int .i64 a4]
abbrev potC (s0 : ByteArray) (a1 : Int) (a2 : Int) (a3 : Int) (a4 : Int) : Array Value := #[.string s0, .int .i64 a1, .int .i64 a2, .int .i64 a3, .int .i64 a4]
def potB (s0 : ByteArray) (a1 : Int) (a2 : Int) (a3 : Int) (a4 : Int) : Bool := nameB s0 && (inB a1 1 10000 && (inB a2 1 10000 && (inB a3 20 95 && (inB a4 0 1000))))
theorem potB_t {s0 : ByteArray} {a1 : Int} {a2 : Int} {a3 : Int} {a4 : Int} (h : potB s0 a1 a2 a3 a4 = true) : nameB s0 = true ∧ inB a1 1 10000 = true ∧ inB a2 1 10000 = true ∧ inB a3 20 95 = true ∧ inB a4 0 1000 = true := by
  simpa [potB, Bool.and_eq_true] using h
theorem toPot_any (s0 : ByteArray) (a1 : Int) (a2 : Int) (a3 : Int) (a4 : Int) (w : World) :
    Calls Try.prog 6 #[potV s0 a1 a2 a3 a4] w fun e w' => e = .returned (potV s0 a1 a2 a3 a4) ∧ Below w.heap.size w w' := by
  go_enter Try.func6, Try.ntmps6
  go_wp2
  refine bodyPost_ret (v := potV s0 a1 a2 a3 a4) (by simp [results, Try.results6, go_sem]) rfl ⟨rfl, ?_⟩
  exact (((Below.refl _ _).alloc (Nat.le_refl _) _).alloc (by simp) _).alloc (by simp; omega) _
theorem szPot_ok (s0 : ByteArray) (a1 : Int) (a2 : Int) (a3 : Int) (a4 : Int) (l : Int) (w : World) (l0 : 0 ≤ l) (l1 : l ≤ 1048576) (z0 : s0.size ≤ maxLen) (h : (s0.size : Int) ≤ l) :
    Calls Try.prog 4 #[potV s0 a1 a2 a3 a4, .int .i64 l] w fun e w' => e = .returned (.int .i64 (l - (s0.size : Int))) ∧ Below w.heap.size w w' := by
  unfold maxLen at z0
  go_enter Try.func4, Try.ntmps4
  go_wp2
  go_ret
  exact ⟨rfl, (Below.refl _ _).alloc (Nat.le_refl _) _⟩
theorem szPot_no (s0 : ByteArray) (a1 : Int) (a2 : Int) (a3 : Int) (a4 : Int) (l : Int) (w : World) (l0 : 0 ≤ l) (l1 : l ≤ 1048576) (z0 : s0.size ≤ maxLen) (h : l < (s0.size : Int)) :
    Calls Try.prog 4 #[potV s0 a1 a2 a3 a4, .int .i64 l] w fun e w' => e = .returned (.int .i64 (-1)) ∧ Below w.heap.size w w' := by
  unfold maxLen at z0
  go_enter Try.func4, Try.ntmps4
  go_wp2
  go_ret
  exact ⟨rfl, (Below.refl _ _).alloc (Nat.le_refl _) _⟩
set_option maxHeartbeats 1000000 in
theorem potvalid_any (s0 : ByteArray) (a1 : Int) (a2 : Int) (a3 : Int) (a4 : Int) (w : World) (z0 : s0.size ≤ maxLen) :
    Calls Try.prog 13 #[potV s0 a1 a2 a3 a4] w fun e w' => e = .returned (.bool (potB s0 a1 a2 a3 a4)) ∧ Below w.heap.size w w' := by
  cases h0 : nameB s0
  · rw [show potB s0 a1 a2 a3 a4 = false by simp [potB, h0]]
    go_enter Try.func13, Try.ntmps13
    go_wp2_with (first | (go_at_call 14; refine (IsName_any _ _ (by assumption)).mono ?_; rintro e w' ⟨rfl, rfl⟩) | (go_at_call 20; refine (isGrams_any _ _).mono ?_; rintro e w' ⟨rfl, rfl⟩) | (go_at_call 21; refine (isHeat_any _ _).mono ?_; rintro e w' ⟨rfl, rfl⟩) | (go_at_call 22; refine (within_any _ _ _ _).mono ?_; rintro e w' ⟨rfl, rfl⟩))
    go_ret
    exact ⟨rfl, (Below.refl _ _).alloc (Nat.le_refl _) _⟩
  cases h1 : inB a1 1 10000
  · rw [show potB s0 a1 a2 a3 a4 = false by simp [potB, h1]]
    go_enter Try.func13, Try.ntmps13
    go_wp2_with (first | (go_at_call 14; refine (IsName_any _ _ (by assumption)).mono ?_; rintro e w' ⟨rfl, rfl⟩) | (go_at_call 20; refine (isGrams_any _ _).mono ?_; rintro e w' ⟨rfl, rfl⟩) | (go_at_call 21; refine (isHeat_any _ _).mono ?_; rintro e w' ⟨rfl, rfl⟩) | (go_at_call 22; refine (within_any _ _ _ _).mono ?_; rintro e w' ⟨rfl, rfl⟩))
    go_ret
    exact ⟨rfl, (Below.refl _ _).alloc (Nat.le_refl _) _⟩
  cases h2 : inB a2 1 10000
  · rw [show potB s0 a1 a2 a3 a4 = false by simp [potB, h2]]
    go_enter Try.func13, Try.ntmps13
    go_wp2_with (first | (go_at_call 14; refine (IsName_any _ _ (by assumption)).mono ?_; rintro e w' ⟨rfl, rfl⟩) | (go_at_call 20; refine (isGrams_any _ _).mono ?_; rintro e w' ⟨rfl, rfl⟩) | (go_at_call 21; refine (isHeat_any _ _).mono ?_; rintro e w' ⟨rfl, rfl⟩) | (go_at_call 22; refine (within_any _ _ _ _).mono ?_; rintro e w' ⟨rfl, rfl⟩))
    go_ret
    exact ⟨rfl, (Below.refl _ _).alloc (Nat.le_refl _) _⟩
  cases h3 : inB a3 20 95
  · rw [show potB s0 a1 a2 a3 a4 = false by simp [potB, h3]]
    go_enter Try.func13, Try.ntmps13
    go_wp2_with (first | (go_at_call 14; refine (IsName_any _ _ (by assumption)).mono ?_; rintro e w' ⟨rfl, rfl⟩) | (go_at_call 20; refine (isGrams_any _ _).mono ?_; rintro e w' ⟨rfl, rfl⟩) | (go_at_call 21; refine (isHeat_any _ _).mono ?_; rintro e w' ⟨rfl, rfl⟩) | (go_at_call 22; refine (within_any _ _ _ _).mono ?_; rintro e w' ⟨rfl, rfl⟩))
    go_ret
    exact ⟨rfl, (Below.refl _ _).alloc (Nat.le_refl _) _⟩
  cases h4 : inB a4 0 1000
  · rw [show potB s0 a1 a2 a3 a4 = false by simp [potB, h4]]
    go_enter Try.func13, Try.ntmps13
    go_wp2_with (first | (go_at_call 14; refine (IsName_any _ _ (by assumption)).mono ?_; rintro e w' ⟨rfl, rfl⟩) | (go_at_call 20; refine (isGrams_any _ _).mono ?_; rintro e w' ⟨rfl, rfl⟩) | (go_at_call 21; refine (isHeat_any _ _).mono ?_; rintro e w' ⟨rfl, rfl⟩) | (go_at_call 22; refine (within_any _ _ _ _).mono ?_; rintro e w' ⟨rfl, rfl⟩))
    go_ret
    exact ⟨rfl, (Below.refl _ _).alloc (Nat.le_refl _) _⟩
  rw [show potB s0 a1 a2 a3 a4 = true by simp [potB, h0, h1, h2, h3, h4]]
  go_enter Try.func13, Try.ntmps13
  go_wp2_with (first | (go_at_call 14; refine (IsName_any _ _ (by assumption)).mono ?_; rintro e w' ⟨rfl, rfl⟩) | (go_at_call 20; refine (isGrams_any _ _).mono ?_; rintro e w' ⟨rfl, rfl⟩) | (go_at_call 21; refine (isHeat_any _ _).mono ?_; rintro e w' ⟨rfl, rfl⟩) | (go_at_call 22; refine (within_any _ _ _ _).mono ?_; rintro e w' ⟨rfl, rfl⟩))
  go_ret
  exact ⟨rfl, (Below.refl _ _).alloc (Nat.le_refl _) _⟩
theorem potvalid_is {s0 : ByteArray} {a1 : Int} {a2 : Int} {a3 : Int} {a4 : Int} {b : Bool} (h : potB s0 a1 a2 a3 a4 = b) (w : World) (z0 : s0.size ≤ maxLen) :
    Calls Try.prog 13 #[potV s0 a1 a2 a3 a4] w fun e w' => e = .returned (.bool b) ∧ Below w.heap.size w w' := by
  rw [← h]; exact potvalid_any _ _ _ _ _ w z0
set_option maxHeartbeats 1000000 in
theorem potone_any (s0 : ByteArray) (a1 : Int) (a2 : Int) (a3 : Int) (a4 : Int) (N : Nat) (w : World) (z0 : s0.size ≤ maxLen) (hk : Blk w N 25 #[.string s0, .int .i64 a1, .int .i64 a2, .int .i64 a3, .int .i64 a4]) :
    Calls Try.prog 9 #[.pointer (some ⟨N, 0, none⟩)] w fun e w' => e = .returned (.bool (potB s0 a1 a2 a3 a4)) ∧ w = w' := by
  have hc := hk.cell
  cases h0 : nameB s0
  · rw [show potB s0 a1 a2 a3 a4 = false by simp [potB, h0]]
    go_enter Try.func9, Try.ntmps9
    go_wp2_with (first | (go_at_call 10; refine (l01Name_any _ _ (by assumption)).mono ?_; rintro e w' ⟨rfl, rfl⟩) | (go_at_call 15; refine (l14Grams_any _ _).mono ?_; rintro e w' ⟨rfl, rfl⟩) | (go_at_call 16; refine (l14Heat_any _ _).mono ?_; rintro e w' ⟨rfl, rfl⟩) | (go_at_call 17; refine (l00In_any _ _ _ _).mono ?_; rintro e w' ⟨rfl, rfl⟩))
    go_ret
    exact ⟨rfl, rfl⟩
  cases h1 : inB a1 1 10000
  · rw [show potB s0 a1 a2 a3 a4 = false by simp [potB, h1]]
    go_enter Try.func9, Try.ntmps9
    go_wp2_with (first | (go_at_call 10; refine (l01Name_any _ _ (by assumption)).mono ?_; rintro e w' ⟨rfl, rfl⟩) | (go_at_call 15; refine (l14Grams_any _ _).mono ?_; rintro e w' ⟨rfl, rfl⟩) | (go_at_call 16; refine (l14Heat_any _ _).mono ?_; rintro e w' ⟨rfl, rfl⟩) | (go_at_call 17; refine (l00In_any _ _ _ _).mono ?_; rintro e w' ⟨rfl, rfl⟩))
    go_ret
    exact ⟨rfl, rfl⟩
  cases h2 : inB a2 1 10000
  · rw [show potB s0 a1 a2 a3 a4 = false by simp [potB, h2]]
    go_enter Try.func9, Try.ntmps9
    go_wp2_with (first | (go_at_call 10; refine (l01Name_any _ _ (by assumption)).mono ?_; rintro e w' ⟨rfl, rfl⟩) | (go_at_call 15; refine (l14Grams_any _ _).mono ?_; rintro e w' ⟨rfl, rfl⟩) | (go_at_call 16; refine (l14Heat_any _ _).mono ?_; rintro e w' ⟨rfl, rfl⟩) | (go_at_call 17; refine (l00In_any _ _ _ _).mono ?_; rintro e w' ⟨rfl, rfl⟩))
    go_ret
    exact ⟨rfl, rfl⟩
  cases h3 : inB a3 20 95
  · rw [show potB s0 a1 a2 a3 a4 = false by simp [potB, h3]]
    go_enter Try.func9, Try.ntmps9
    go_wp2_with (first | (go_at_call 10; refine (l01Name_any _ _ (by assumption)).mono ?_; rintro e w' ⟨rfl, rfl⟩) | (go_at_call 15; refine (l14Grams_any _ _).mono ?_; rintro e w' ⟨rfl, rfl⟩) | (go_at_call 16; refine (l14Heat_any _ _).mono ?_; rintro e w' ⟨rfl, rfl⟩) | (go_at_call 17; refine (l00In_any _ _ _ _).mono ?_; rintro e w' ⟨rfl, rfl⟩))
    go_ret
    exact ⟨rfl, rfl⟩
  cases h4 : inB a4 0 1000
  · rw [show potB s0 a1 a2 a3 a4 = false by simp [potB, h4]]
    go_enter Try.func9, Try.ntmps9
    go_wp2_with (first | (go_at_call 10; refine (l01Name_any _ _ (by assumption)).mono ?_; rintro e w' ⟨rfl, rfl⟩) | (go_at_call 15; refine (l14Grams_any _ _).mono ?_; rintro e w' ⟨rfl, rfl⟩) | (go_at_call 16; refine (l14Heat_any _ _).mono ?_; rintro e w' ⟨rfl, rfl⟩) | (go_at_call 17; refine (l00In_any _ _ _ _).mono ?_; rintro e w' ⟨rfl, rfl⟩))
    go_ret
    exact ⟨rfl, rfl⟩
  rw [show potB s0 a1 a2 a3 a4 = true by simp [potB, h0, h1, h2, h3, h4]]
  go_enter Try.func9, Try.ntmps9
  go_wp2_with (first | (go_at_call 10; refine (l01Name_any _ _ (by assumption)).mono ?_; rintro e w' ⟨rfl, rfl⟩) | (go_at_call 15; refine (l14Grams_any _ _).mono ?_; rintro e w' ⟨rfl, rfl⟩) | (go_at_call 16; refine (l14Heat_any _ _).mono ?_; rintro e w' ⟨rfl, rfl⟩) | (go_at_call 17; refine (l00In_any _ _ _ _).mono ?_; rintro e w' ⟨rfl, rfl⟩))
  go_ret
  exact ⟨rfl, rfl⟩
theorem potone_is {s0 : ByteArray} {a1 : Int} {a2 : Int} {a3 : Int} {a4 : Int} {N : Nat} {b : Bool} (h : potB s0 a1 a2 a3 a4 = b) (w : World) (z0 : s0.size ≤ maxLen) (hk : Blk w N 25 #[.string s0, .int .i64 a1, .int .i64 a2, .int .i64 a3, .int .i64 a4]) :
    Calls Try.prog 9 #[.pointer (some ⟨N, 0, none⟩)] w fun e w' => e = .returned (.bool b) ∧ w = w' := by
  rw [← h]; exact potone_any _ _ _ _ _ N w z0 hk
end Go.Proofs.Ytmngjlamnkkaeaa
