/- Slices of structs: sizes, copies, equality. -/
import Derived.Test.YtbgbhhaheogjcaaStructs
import Derived.Test.YtbgbhhaheogjcaaRd
set_option linter.unusedVariables false
namespace Go.Proofs.Ytbgbhhaheogjcaa
open Go.RowKit

theorem l06Size_any (n : Int) (w : World) :
    Calls Try.prog 137 #[.int .i64 n] w fun e w' => e = .returned (.bool (inB n (1) (10000))) ∧ w = w' := by
  go_enter Try.func137, Try.ntmps137
  go_wp2_with (go_at_call 71; refine (l00In_any _ _ _ _).mono ?_; rintro e w' ⟨rfl, rfl⟩)
  go_ret
  exact ⟨rfl, rfl⟩
theorem l11At_any (n : Int) (w : World) :
    Calls Try.prog 138 #[.int .i64 n] w fun e w' => e = .returned (.bool (inB n (0) (8000))) ∧ w = w' := by
  go_enter Try.func138, Try.ntmps138
  go_wp2_with (go_at_call 71; refine (l00In_any _ _ _ _).mono ?_; rintro e w' ⟨rfl, rfl⟩)
  go_ret
  exact ⟨rfl, rfl⟩
theorem isPlace_any (n : Int) (w : World) :
    Calls Try.prog 133 #[.int .i64 n] w fun e w' => e = .returned (.bool (inB n (0) (8000))) ∧ w = w' := by
  go_enter Try.func133, Try.ntmps133
  go_wp2_with (go_at_call 75; refine (within_any _ _ _ _).mono ?_; rintro e w' ⟨rfl, rfl⟩)
  go_ret
  exact ⟨rfl, rfl⟩
abbrev ribV (s0 : ByteArray) (a1 : Int) (a2 : Int) : Value := .agg #[.string s0, .int .i64 a1, .int .i64 a2]
abbrev ribC (s0 : ByteArray) (a1 : Int) (a2 : Int) : Array Value := #[.string s0, .int .i64 a1, .int .i64 a2]
def ribB (s0 : ByteArray) (a1 : Int) (a2 : Int) : Bool := nameB s0 && (inB a1 1 10000 && (inB a2 1 10000))
theorem ribB_t {s0 : ByteArray} {a1 : Int} {a2 : Int} (h : ribB s0 a1 a2 = true) : nameB s0 = true ∧ inB a1 1 10000 = true ∧ inB a2 1 10000 = true := by
  simpa [ribB, Bool.and_eq_true] using h
theorem toRib_any (s0 : ByteArray) (a1 : Int) (a2 : Int) (w : World) :
    Calls Try.prog 104 #[ribV s0 a1 a2] w fun e w' => e = .returned (ribV s0 a1 a2) ∧ Below w.heap.size w w' := by
  go_enter Try.func104, Try.ntmps104
  go_wp2
  refine bodyPost_ret (v := ribV s0 a1 a2) (by simp [results, Try.results104, go_sem]) rfl ⟨rfl, ?_⟩
  exact (((Below.refl _ _).alloc (Nat.le_refl _) _).alloc (by simp) _).alloc (by simp; omega) _
theorem szRib_ok (s0 : ByteArray) (a1 : Int) (a2 : Int) (l : Int) (w : World) (l0 : 0 ≤ l) (l1 : l ≤ 1048576) (z0 : s0.size ≤ maxLen) (h : (s0.size : Int) ≤ l) :
    Calls Try.prog 102 #[ribV s0 a1 a2, .int .i64 l] w fun e w' => e = .returned (.int .i64 (l - (s0.size : Int))) ∧ Below w.heap.size w w' := by
  unfold maxLen at z0
  go_enter Try.func102, Try.ntmps102
  go_wp2
  go_ret
  exact ⟨rfl, (Below.refl _ _).alloc (Nat.le_refl _) _⟩
theorem szRib_no (s0 : ByteArray) (a1 : Int) (a2 : Int) (l : Int) (w : World) (l0 : 0 ≤ l) (l1 : l ≤ 1048576) (z0 : s0.size ≤ maxLen) (h : l < (s0.size : Int)) :
    Calls Try.prog 102 #[ribV s0 a1 a2, .int .i64 l] w fun e w' => e = .returned (.int .i64 (-1)) ∧ Below w.heap.size w w' := by
  unfold maxLen at z0
  go_enter Try.func102, Try.ntmps102
  go_wp2
  go_ret
  exact ⟨rfl, (Below.refl _ _).alloc (Nat.le_refl _) _⟩
set_option maxHeartbeats 1000000 in
theorem ribvalid_any (s0 : ByteArray) (a1 : Int) (a2 : Int) (w : World) (z0 : s0.size ≤ maxLen) :
    Calls Try.prog 105 #[ribV s0 a1 a2] w fun e w' => e = .returned (.bool (ribB s0 a1 a2)) ∧ Below w.heap.size w w' := by
  cases h0 : nameB s0
  · rw [show ribB s0 a1 a2 = false by simp [ribB, h0]]
    go_enter Try.func105, Try.ntmps105
    go_wp2_with (first | (go_at_call 84; refine (IsName_any _ _ (by assumption)).mono ?_; rintro e w' ⟨rfl, rfl⟩) | (go_at_call 75; refine (within_any _ _ _ _).mono ?_; rintro e w' ⟨rfl, rfl⟩))
    go_ret
    exact ⟨rfl, (Below.refl _ _).alloc (Nat.le_refl _) _⟩
  cases h1 : inB a1 1 10000
  · rw [show ribB s0 a1 a2 = false by simp [ribB, h1]]
    go_enter Try.func105, Try.ntmps105
    go_wp2_with (first | (go_at_call 84; refine (IsName_any _ _ (by assumption)).mono ?_; rintro e w' ⟨rfl, rfl⟩) | (go_at_call 75; refine (within_any _ _ _ _).mono ?_; rintro e w' ⟨rfl, rfl⟩))
    go_ret
    exact ⟨rfl, (Below.refl _ _).alloc (Nat.le_refl _) _⟩
  cases h2 : inB a2 1 10000
  · rw [show ribB s0 a1 a2 = false by simp [ribB, h2]]
    go_enter Try.func105, Try.ntmps105
    go_wp2_with (first | (go_at_call 84; refine (IsName_any _ _ (by assumption)).mono ?_; rintro e w' ⟨rfl, rfl⟩) | (go_at_call 75; refine (within_any _ _ _ _).mono ?_; rintro e w' ⟨rfl, rfl⟩))
    go_ret
    exact ⟨rfl, (Below.refl _ _).alloc (Nat.le_refl _) _⟩
  rw [show ribB s0 a1 a2 = true by simp [ribB, h0, h1, h2]]
  go_enter Try.func105, Try.ntmps105
  go_wp2_with (first | (go_at_call 84; refine (IsName_any _ _ (by assumption)).mono ?_; rintro e w' ⟨rfl, rfl⟩) | (go_at_call 75; refine (within_any _ _ _ _).mono ?_; rintro e w' ⟨rfl, rfl⟩))
  go_ret
  exact ⟨rfl, (Below.refl _ _).alloc (Nat.le_refl _) _⟩
theorem ribvalid_is {s0 : ByteArray} {a1 : Int} {a2 : Int} {b : Bool} (h : ribB s0 a1 a2 = b) (w : World) (z0 : s0.size ≤ maxLen) :
    Calls Try.prog 105 #[ribV s0 a1 a2] w fun e w' => e = .returned (.bool b) ∧ Below w.heap.size w w' := by
  rw [← h]; exact ribvalid_any _ _ _ w z0
set_option maxHeartbeats 1000000 in
theorem ribone_any (s0 : ByteArray) (a1 : Int) (a2 : Int) (N : Nat) (w : World) (z0 : s0.size ≤ maxLen) (hk : Blk w N 127 #[.string s0, .int .i64 a1, .int .i64 a2]) :
    Calls Try.prog 131 #[.pointer (some ⟨N, 0, none⟩)] w fun e w' => e = .returned (.bool (ribB s0 a1 a2)) ∧ w = w' := by
  have hc := hk.cell
  cases h0 : nameB s0
  · rw [show ribB s0 a1 a2 = false by simp [ribB, h0]]
    go_enter Try.func131, Try.ntmps131
    go_wp2_with (first | (go_at_call 81; refine (l01Name_any _ _ (by assumption)).mono ?_; rintro e w' ⟨rfl, rfl⟩) | (go_at_call 137; refine (l06Size_any _ _).mono ?_; rintro e w' ⟨rfl, rfl⟩))
    go_ret
    exact ⟨rfl, rfl⟩
  cases h1 : inB a1 1 10000
  · rw [show ribB s0 a1 a2 = false by simp [ribB, h1]]
    go_enter Try.func131, Try.ntmps131
    go_wp2_with (first | (go_at_call 81; refine (l01Name_any _ _ (by assumption)).mono ?_; rintro e w' ⟨rfl, rfl⟩) | (go_at_call 137; refine (l06Size_any _ _).mono ?_; rintro e w' ⟨rfl, rfl⟩))
    go_ret
    exact ⟨rfl, rfl⟩
  cases h2 : inB a2 1 10000
  · rw [show ribB s0 a1 a2 = false by simp [ribB, h2]]
    go_enter Try.func131, Try.ntmps131
    go_wp2_with (first | (go_at_call 81; refine (l01Name_any _ _ (by assumption)).mono ?_; rintro e w' ⟨rfl, rfl⟩) | (go_at_call 137; refine (l06Size_any _ _).mono ?_; rintro e w' ⟨rfl, rfl⟩))
    go_ret
    exact ⟨rfl, rfl⟩
  rw [show ribB s0 a1 a2 = true by simp [ribB, h0, h1, h2]]
  go_enter Try.func131, Try.ntmps131
  go_wp2_with (first | (go_at_call 81; refine (l01Name_any _ _ (by assumption)).mono ?_; rintro e w' ⟨rfl, rfl⟩) | (go_at_call 137; refine (l06Size_any _ _).mono ?_; rintro e w' ⟨rfl, rfl⟩))
  go_ret
  exact ⟨rfl, rfl⟩
theorem ribone_is {s0 : ByteArray} {a1 : Int} {a2 : Int} {N : Nat} {b : Bool} (h : ribB s0 a1 a2 = b) (w : World) (z0 : s0.size ≤ maxLen) (hk : Blk w N 127 #[.string s0, .int .i64 a1, .int .i64 a2]) :
    Calls Try.prog 131 #[.pointer (some ⟨N, 0, none⟩)] w fun e w' => e = .returned (.bool b) ∧ w = w' := by
  rw [← h]; exact ribone_any _ _ _ N w z0 hk
abbrev partV (s0 : ByteArray) (a1 : Int) (a2 : Int) : Value := .agg #[.string s0, .int .i64 a1, .int .i64 a2]
abbrev partC (s0 : ByteArray) (a1 : Int) (a2 : Int) : Array Value := #[.string s0, .int .i64 a1, .int .i64 a2]
def partB (s0 : ByteArray) (a1 : Int) (a2 : Int) : Bool := nameB s0 && (inB a1 0 8000 && (inB a2 1 100000))
theorem partB_t {s0 : ByteArray} {a1 : Int} {a2 : Int} (h : partB s0 a1 a2 = true) : nameB s0 = true ∧ inB a1 0 8000 = true ∧ inB a2 1 100000 = true := by
  simpa [partB, Bool.and_eq_true] using h
theorem toPart_any (s0 : ByteArray) (a1 : Int) (a2 : Int) (w : World) :
    Calls Try.prog 109 #[partV s0 a1 a2] w fun e w' => e = .returned (partV s0 a1 a2) ∧ Below w.heap.size w w' := by
  go_enter Try.func109, Try.ntmps109
  go_wp2
  refine bodyPost_ret (v := partV s0 a1 a2) (by simp [results, Try.results109, go_sem]) rfl ⟨rfl, ?_⟩
  exact (((Below.refl _ _).alloc (Nat.le_refl _) _).alloc (by simp) _).alloc (by simp; omega) _
theorem szPart_ok (s0 : ByteArray) (a1 : Int) (a2 : Int) (l : Int) (w : World) (l0 : 0 ≤ l) (l1 : l ≤ 1048576) (z0 : s0.size ≤ maxLen) (h : (s0.size : Int) ≤ l) :
    Calls Try.prog 107 #[partV s0 a1 a2, .int .i64 l] w fun e w' => e = .returned (.int .i64 (l - (s0.size : Int))) ∧ Below w.heap.size w w' := by
  unfold maxLen at z0
  go_enter Try.func107, Try.ntmps107
  go_wp2
  go_ret
  exact ⟨rfl, (Below.refl _ _).alloc (Nat.le_refl _) _⟩
theorem szPart_no (s0 : ByteArray) (a1 : Int) (a2 : Int) (l : Int) (w : World) (l0 : 0 ≤ l) (l1 : l ≤ 1048576) (z0 : s0.size ≤ maxLen) (h : l < (s0.size : Int)) :
    Calls Try.prog 107 #[partV s0 a1 a2, .int .i64 l] w fun e w' => e = .returned (.int .i64 (-1)) ∧ Below w.heap.size w w' := by
  unfold maxLen at z0
  go_enter Try.func107, Try.ntmps107
  go_wp2
  go_ret
  exact ⟨rfl, (Below.refl _ _).alloc (Nat.le_refl _) _⟩
set_option maxHeartbeats 1000000 in
theorem partvalid_any (s0 : ByteArray) (a1 : Int) (a2 : Int) (w : World) (z0 : s0.size ≤ maxLen) :
    Calls Try.prog 110 #[partV s0 a1 a2] w fun e w' => e = .returned (.bool (partB s0 a1 a2)) ∧ Below w.heap.size w w' := by
  cases h0 : nameB s0
  · rw [show partB s0 a1 a2 = false by simp [partB, h0]]
    go_enter Try.func110, Try.ntmps110
    go_wp2_with (first | (go_at_call 84; refine (IsName_any _ _ (by assumption)).mono ?_; rintro e w' ⟨rfl, rfl⟩) | (go_at_call 133; refine (isPlace_any _ _).mono ?_; rintro e w' ⟨rfl, rfl⟩) | (go_at_call 75; refine (within_any _ _ _ _).mono ?_; rintro e w' ⟨rfl, rfl⟩))
    go_ret
    exact ⟨rfl, (Below.refl _ _).alloc (Nat.le_refl _) _⟩
  cases h1 : inB a1 0 8000
  · rw [show partB s0 a1 a2 = false by simp [partB, h1]]
    go_enter Try.func110, Try.ntmps110
    go_wp2_with (first | (go_at_call 84; refine (IsName_any _ _ (by assumption)).mono ?_; rintro e w' ⟨rfl, rfl⟩) | (go_at_call 133; refine (isPlace_any _ _).mono ?_; rintro e w' ⟨rfl, rfl⟩) | (go_at_call 75; refine (within_any _ _ _ _).mono ?_; rintro e w' ⟨rfl, rfl⟩))
    go_ret
    exact ⟨rfl, (Below.refl _ _).alloc (Nat.le_refl _) _⟩
  cases h2 : inB a2 1 100000
  · rw [show partB s0 a1 a2 = false by simp [partB, h2]]
    go_enter Try.func110, Try.ntmps110
    go_wp2_with (first | (go_at_call 84; refine (IsName_any _ _ (by assumption)).mono ?_; rintro e w' ⟨rfl, rfl⟩) | (go_at_call 133; refine (isPlace_any _ _).mono ?_; rintro e w' ⟨rfl, rfl⟩) | (go_at_call 75; refine (within_any _ _ _ _).mono ?_; rintro e w' ⟨rfl, rfl⟩))
    go_ret
    exact ⟨rfl, (Below.refl _ _).alloc (Nat.le_refl _) _⟩
  rw [show partB s0 a1 a2 = true by simp [partB, h0, h1, h2]]
  go_enter Try.func110, Try.ntmps110
  go_wp2_with (first | (go_at_call 84; refine (IsName_any _ _ (by assumption)).mono ?_; rintro e w' ⟨rfl, rfl⟩) | (go_at_call 133; refine (isPlace_any _ _).mono ?_; rintro e w' ⟨rfl, rfl⟩) | (go_at_call 75; refine (within_any _ _ _ _).mono ?_; rintro e w' ⟨rfl, rfl⟩))
  go_ret
  exact ⟨rfl, (Below.refl _ _).alloc (Nat.le_refl _) _⟩
theorem partvalid_is {s0 : ByteArray} {a1 : Int} {a2 : Int} {b : Bool} (h : partB s0 a1 a2 = b) (w : World) (z0 : s0.size ≤ maxLen) :
    Calls Try.prog 110 #[partV s0 a1 a2] w fun e w' => e = .returned (.bool b) ∧ Below w.heap.size w w' := by
  rw [← h]; exact partvalid_any _ _ _ w z0
set_option maxHeartbeats 1000000 in
theorem partone_any (s0 : ByteArray) (a1 : Int) (a2 : Int) (N : Nat) (w : World) (z0 : s0.size ≤ maxLen) (hk : Blk w N 133 #[.string s0, .int .i64 a1, .int .i64 a2]) :
    Calls Try.prog 132 #[.pointer (some ⟨N, 0, none⟩)] w fun e w' => e = .returned (.bool (partB s0 a1 a2)) ∧ w = w' := by
  have hc := hk.cell
  cases h0 : nameB s0
  · rw [show partB s0 a1 a2 = false by simp [partB, h0]]
    go_enter Try.func132, Try.ntmps132
    go_wp2_with (first | (go_at_call 81; refine (l01Name_any _ _ (by assumption)).mono ?_; rintro e w' ⟨rfl, rfl⟩) | (go_at_call 138; refine (l11At_any _ _).mono ?_; rintro e w' ⟨rfl, rfl⟩) | (go_at_call 71; refine (l00In_any _ _ _ _).mono ?_; rintro e w' ⟨rfl, rfl⟩))
    go_ret
    exact ⟨rfl, rfl⟩
  cases h1 : inB a1 0 8000
  · rw [show partB s0 a1 a2 = false by simp [partB, h1]]
    go_enter Try.func132, Try.ntmps132
    go_wp2_with (first | (go_at_call 81; refine (l01Name_any _ _ (by assumption)).mono ?_; rintro e w' ⟨rfl, rfl⟩) | (go_at_call 138; refine (l11At_any _ _).mono ?_; rintro e w' ⟨rfl, rfl⟩) | (go_at_call 71; refine (l00In_any _ _ _ _).mono ?_; rintro e w' ⟨rfl, rfl⟩))
    go_ret
    exact ⟨rfl, rfl⟩
  cases h2 : inB a2 1 100000
  · rw [show partB s0 a1 a2 = false by simp [partB, h2]]
    go_enter Try.func132, Try.ntmps132
    go_wp2_with (first | (go_at_call 81; refine (l01Name_any _ _ (by assumption)).mono ?_; rintro e w' ⟨rfl, rfl⟩) | (go_at_call 138; refine (l11At_any _ _).mono ?_; rintro e w' ⟨rfl, rfl⟩) | (go_at_call 71; refine (l00In_any _ _ _ _).mono ?_; rintro e w' ⟨rfl, rfl⟩))
    go_ret
    exact ⟨rfl, rfl⟩
  rw [show partB s0 a1 a2 = true by simp [partB, h0, h1, h2]]
  go_enter Try.func132, Try.ntmps132
  go_wp2_with (first | (go_at_call 81; refine (l01Name_any _ _ (by assumption)).mono ?_; rintro e w' ⟨rfl, rfl⟩) | (go_at_call 138; refine (l11At_any _ _).mono ?_; rintro e w' ⟨rfl, rfl⟩) | (go_at_call 71; refine (l00In_any _ _ _ _).mono ?_; rintro e w' ⟨rfl, rfl⟩))
  go_ret
  exact ⟨rfl, rfl⟩
theorem partone_is {s0 : ByteArray} {a1 : Int} {a2 : Int} {N : Nat} {b : Bool} (h : partB s0 a1 a2 = b) (w : World) (z0 : s0.size ≤ maxLen) (hk : Blk w N 133 #[.string s0, .int .i64 a1, .int .i64 a2]) :
    Calls Try.prog 132 #[.pointer (some ⟨N, 0, none⟩)] w fun e w' => e = .returned (.bool b) ∧ w = w' := by
  rw [← h]; exact partone_any _ _ _ N w z0 hk
abbrev settingV (s0 : ByteArray) (a1 : Int) : Value := .agg #[.string s0, .int .i64 a1]
abbrev settingC (s0 : ByteArray) (a1 : Int) : Array Value := #[.string s0, .int .i64 a1]
def settingB (s0 : ByteArray) (a1 : Int) : Bool := nameB s0 && (inB a1 0 1000)
theorem settingB_t {s0 : ByteArray} {a1 : Int} (h : settingB s0 a1 = true) : nameB s0 = true ∧ inB a1 0 1000 = true := by
  simpa [settingB, Bool.and_eq_true] using h
theorem toSetting_any (s0 : ByteArray) (a1 : Int) (w : World) :
    Calls Try.prog 96 #[settingV s0 a1] w fun e w' => e = .returned (settingV s0 a1) ∧ Below w.heap.size w w' := by
  go_enter Try.func96, Try.ntmps96
  go_wp2
  refine bodyPost_ret (v := settingV s0 a1) (by simp [results, Try.results96, go_sem]) rfl ⟨rfl, ?_⟩
  exact (((Below.refl _ _).alloc (Nat.le_refl _) _).alloc (by simp) _).alloc (by simp; omega) _
theorem szSetting_ok (s0 : ByteArray) (a1 : Int) (l : Int) (w : World) (l0 : 0 ≤ l) (l1 : l ≤ 1048576) (z0 : s0.size ≤ maxLen) (h : (s0.size : Int) ≤ l) :
    Calls Try.prog 94 #[settingV s0 a1, .int .i64 l] w fun e w' => e = .returned (.int .i64 (l - (s0.size : Int))) ∧ Below w.heap.size w w' := by
  unfold maxLen at z0
  go_enter Try.func94, Try.ntmps94
  go_wp2
  go_ret
  exact ⟨rfl, (Below.refl _ _).alloc (Nat.le_refl _) _⟩
theorem szSetting_no (s0 : ByteArray) (a1 : Int) (l : Int) (w : World) (l0 : 0 ≤ l) (l1 : l ≤ 1048576) (z0 : s0.size ≤ maxLen) (h : l < (s0.size : Int)) :
    Calls Try.prog 94 #[settingV s0 a1, .int .i64 l] w fun e w' => e = .returned (.int .i64 (-1)) ∧ Below w.heap.size w w' := by
  unfold maxLen at z0
  go_enter Try.func94, Try.ntmps94
  go_wp2
  go_ret
  exact ⟨rfl, (Below.refl _ _).alloc (Nat.le_refl _) _⟩
set_option maxHeartbeats 1000000 in
theorem settingvalid_any (s0 : ByteArray) (a1 : Int) (w : World) (z0 : s0.size ≤ maxLen) :
    Calls Try.prog 97 #[settingV s0 a1] w fun e w' => e = .returned (.bool (settingB s0 a1)) ∧ Below w.heap.size w w' := by
  cases h0 : nameB s0
  · rw [show settingB s0 a1 = false by simp [settingB, h0]]
    go_enter Try.func97, Try.ntmps97
    go_wp2_with (first | (go_at_call 84; refine (IsName_any _ _ (by assumption)).mono ?_; rintro e w' ⟨rfl, rfl⟩) | (go_at_call 75; refine (within_any _ _ _ _).mono ?_; rintro e w' ⟨rfl, rfl⟩))
    go_ret
    exact ⟨rfl, (Below.refl _ _).alloc (Nat.le_refl _) _⟩
  cases h1 : inB a1 0 1000
  · rw [show settingB s0 a1 = false by simp [settingB, h1]]
    go_enter Try.func97, Try.ntmps97
    go_wp2_with (first | (go_at_call 84; refine (IsName_any _ _ (by assumption)).mono ?_; rintro e w' ⟨rfl, rfl⟩) | (go_at_call 75; refine (within_any _ _ _ _).mono ?_; rintro e w' ⟨rfl, rfl⟩))
    go_ret
    exact ⟨rfl, (Below.refl _ _).alloc (Nat.le_refl _) _⟩
  rw [show settingB s0 a1 = true by simp [settingB, h0, h1]]
  go_enter Try.func97, Try.ntmps97
  go_wp2_with (first | (go_at_call 84; refine (IsName_any _ _ (by assumption)).mono ?_; rintro e w' ⟨rfl, rfl⟩) | (go_at_call 75; refine (within_any _ _ _ _).mono ?_; rintro e w' ⟨rfl, rfl⟩))
  go_ret
  exact ⟨rfl, (Below.refl _ _).alloc (Nat.le_refl _) _⟩
theorem settingvalid_is {s0 : ByteArray} {a1 : Int} {b : Bool} (h : settingB s0 a1 = b) (w : World) (z0 : s0.size ≤ maxLen) :
    Calls Try.prog 97 #[settingV s0 a1] w fun e w' => e = .returned (.bool b) ∧ Below w.heap.size w w' := by
  rw [← h]; exact settingvalid_any _ _ w z0
set_option maxHeartbeats 1000000 in
theorem settingone_any (s0 : ByteArray) (a1 : Int) (N : Nat) (w : World) (z0 : s0.size ≤ maxLen) (hk : Blk w N 120 #[.string s0, .int .i64 a1]) :
    Calls Try.prog 130 #[.pointer (some ⟨N, 0, none⟩)] w fun e w' => e = .returned (.bool (settingB s0 a1)) ∧ w = w' := by
  have hc := hk.cell
  cases h0 : nameB s0
  · rw [show settingB s0 a1 = false by simp [settingB, h0]]
    go_enter Try.func130, Try.ntmps130
    go_wp2_with (first | (go_at_call 81; refine (l01Name_any _ _ (by assumption)).mono ?_; rintro e w' ⟨rfl, rfl⟩) | (go_at_call 71; refine (l00In_any _ _ _ _).mono ?_; rintro e w' ⟨rfl, rfl⟩))
    go_ret
    exact ⟨rfl, rfl⟩
  cases h1 : inB a1 0 1000
  · rw [show settingB s0 a1 = false by simp [settingB, h1]]
    go_enter Try.func130, Try.ntmps130
    go_wp2_with (first | (go_at_call 81; refine (l01Name_any _ _ (by assumption)).mono ?_; rintro e w' ⟨rfl, rfl⟩) | (go_at_call 71; refine (l00In_any _ _ _ _).mono ?_; rintro e w' ⟨rfl, rfl⟩))
    go_ret
    exact ⟨rfl, rfl⟩
  rw [show settingB s0 a1 = true by simp [settingB, h0, h1]]
  go_enter Try.func130, Try.ntmps130
  go_wp2_with (first | (go_at_call 81; refine (l01Name_any _ _ (by assumption)).mono ?_; rintro e w' ⟨rfl, rfl⟩) | (go_at_call 71; refine (l00In_any _ _ _ _).mono ?_; rintro e w' ⟨rfl, rfl⟩))
  go_ret
  exact ⟨rfl, rfl⟩
theorem settingone_is {s0 : ByteArray} {a1 : Int} {N : Nat} {b : Bool} (h : settingB s0 a1 = b) (w : World) (z0 : s0.size ≤ maxLen) (hk : Blk w N 120 #[.string s0, .int .i64 a1]) :
    Calls Try.prog 130 #[.pointer (some ⟨N, 0, none⟩)] w fun e w' => e = .returned (.bool b) ∧ w = w' := by
  rw [← h]; exact settingone_any _ _ N w z0 hk
structure RibD where
  s0 : ByteArray
  a1 : Int
  a2 : Int
def ribF (x : RibD) : List Value := [.string x.s0, .int .i64 x.a1, .int .i64 x.a2]
theorem ribF_len (x : RibD) : (ribF x).length = 3 := rfl
def ribZ (ds : List RibD) : Prop := ∀ x ∈ ds, x.s0.size ≤ maxLen
theorem eqRib_refl (x : RibD) (w : World) :
    Calls Try.prog 106 #[ribV x.s0 x.a1 x.a2, ribV x.s0 x.a1 x.a2] w fun e w' => e = .returned (.bool true) ∧ Below w.heap.size w w' := by
  go_enter Try.func106, Try.ntmps106
  go_wp2
  go_ret
  exact ⟨rfl, ((Below.refl _ _).alloc (Nat.le_refl _) _).alloc (by simp) _⟩
set_option maxHeartbeats 1000000 in
theorem szRibS_any (A : Option Addr) (c n : Nat) (ds : List RibD) (lf : Int) (w : World) (hn : ds.length = n) (h : Rd w w.heap.size 3 A n (ds.flatMap ribF)) (hz : ribZ ds) (l0 : 0 ≤ lf) (l1 : lf ≤ 1048576) (hm : n ≤ maxLen) :
    Calls Try.prog 46 #[.slice A n c, .int .i64 lf] w (SzE n lf w) := by
  unfold maxLen at hm
  have HN := Lib.hid hn
  clear hn
  by_cases h0 : lf < n
  · go_enter Try.func46, Try.ntmps46
    go_wp2
    go_ret
    exact ⟨-1, .inl rfl, rfl, Below.refl _ _⟩
  go_enter Try.func46, Try.ntmps46
  go_wp2
  have H := Lib.hid h
  clear h
  go_loopw [1, 5] (fun l i wr => ∃ (k : Nat) (r : Int), k ≤ n ∧ 0 ≤ r ∧ r + n ≤ lf ∧ i = .int .i64 k ∧ l = .int .i64 r ∧ Hid (Below w.heap.size w wr)) (fun _ i _ => n - (intOf i).toNat)
  case atStart => exact ⟨0, lf - n, by omega, by omega, by omega, rfl, rfl, Lib.hid (Below.refl _ _)⟩
  case round =>
    obtain ⟨k, r, hk, r0, r1, rfl, rfl, hb⟩ := hrel
    by_cases hlt : k < n
    · obtain ⟨x, hx, hxm⟩ := getD_of (l := ds) (i := k) (by rw [HN.out]; exact hlt)
      have zx := hz x hxm
      obtain ⟨b, o, rfl, hbB, hc⟩ := (H.out.below hb.out).at_ ribF_len (by omega)
      have c0 : wr.cell? ⟨b, o + k * 3, none⟩ = some (.string x.s0) := hc k x 0 _ hx rfl
      have c1 : wr.cell? ⟨b, o + k * 3 + 1, none⟩ = some (.int .i64 x.a1) := hc k x 1 _ hx rfl
      have c2 : wr.cell? ⟨b, o + k * 3 + 2, none⟩ = some (.int .i64 x.a2) := hc k x 2 _ hx rfl
      clear hc hx hxm
      by_cases hs : (x.s0.size : Int) ≤ r
      · go_wp2_with fail
        refine (szRib_ok x.s0 x.a1 x.a2 _ _ r0 (by omega) zx hs).mono ?_
        rintro e w1 ⟨rfl, hb1⟩
        have b1 := Lib.hid (below_more hb.out hb1 (Nat.le_refl _))
        clear hb1 c0 c1 c2 zx
        go_wp2
        go_roundw
        case rel => exact ⟨k + 1, r - (x.s0.size : Int), by omega, by omega, by omega, by go_num, rfl, b1⟩
        case measure => simp [intOf]; omega
      · go_wp2_with fail
        refine (szRib_no x.s0 x.a1 x.a2 _ _ r0 (by omega) zx (by omega)).mono ?_
        rintro e w1 ⟨rfl, hb1⟩
        have b1 := Lib.hid (below_more hb.out hb1 (Nat.le_refl _))
        clear hb1 c0 c1 c2 zx
        go_wp2
        go_ret
        exact ⟨-1, .inl rfl, rfl, b1.out⟩
    · go_wp2
      go_ret
      exact ⟨r, .inr ⟨r0, r1⟩, rfl, hb.out⟩
theorem infoRib : (Try.prog.info? 127).map (fun i => (i.zero, i.size, i.bytes)) = some (some (.agg #[.string ByteArray.empty, .int .i64 0, .int .i64 0]), 3, 32) := by kernel_rfl
theorem fillRib {w : World} {g n k : Nat} {t : TypeId} {ds : List RibD} {x : RibD} (h : Fill w g t (n * 3) (k * 3) (ds.flatMap ribF)) (hx : ds[k]? = some x) (hk : k < n) :
    Fill (((w.setCell ⟨g, k * 3, none⟩ (.string x.s0)).setCell ⟨g, k * 3 + 1, none⟩ (.int .i64 x.a1)).setCell ⟨g, k * 3 + 2, none⟩ (.int .i64 x.a2)) g t (n * 3) ((k + 1) * 3) (ds.flatMap ribF) := by
  have h0 := h.step (flat_get ribF_len ds k 0 x _ hx rfl) (by omega)
  have h1 := h0.step (flat_get ribF_len ds k 1 x _ hx rfl) (by omega)
  have h2 := h1.step (flat_get ribF_len ds k 2 x _ hx rfl) (by omega)
  rw [show (k + 1) * 3 = k * 3 + 3 by omega]
  exact h2
set_option maxHeartbeats 1000000 in
theorem toRibS_any (A : Option Addr) (c n : Nat) (ds : List RibD) (w : World) (hn : ds.length = n) (h : Rd w w.heap.size 3 A n (ds.flatMap ribF)) (hm : n ≤ 1048576) :
    Calls Try.prog 48 #[.slice A n c] w fun e w' => e = .returned (.slice (some ⟨w.heap.size, 0, none⟩) n n) ∧ Blk w' w.heap.size 127 (ds.flatMap ribF).toArray ∧ Below w.heap.size w w' := by
  obtain ⟨cs, hcs, _, hmk⟩ := make_run (P := Try.prog) Try.underlying69 infoRib n (by omega) (by unfold maxLen; omega)
  have HN := Lib.hid hn
  have H := Lib.hid h
  have F0 := Lib.hid (Fill.start (xs := ds.flatMap ribF) (Blk.new w 127 cs) hcs)
  have b0 := Lib.hid ((Below.refl w.heap.size w).alloc (Nat.le_refl _) (.cells cs 127))
  clear hn h hcs
  go_enter Try.func48, Try.ntmps48
  go_wp2
  clear hmk
  generalize w.alloc (.cells cs 127) = w1 at F0 b0 ⊢
  go_loopw [4] (fun i wr => ∃ k : Nat, k ≤ n ∧ i = .int .i64 k ∧ Hid (Fill wr w.heap.size 127 (n * 3) (k * 3) (ds.flatMap ribF)) ∧ Hid (Below w.heap.size w wr)) (fun i _ => n - (intOf i).toNat)
  case atStart => exact ⟨0, Nat.zero_le _, rfl, by rw [Nat.zero_mul]; exact F0, b0⟩
  case round =>
    obtain ⟨k, hk, rfl, F, hb⟩ := hrel
    by_cases hlt : k < n
    · obtain ⟨x, hx, hxm⟩ := getD_of (l := ds) (i := k) (by rw [HN.out]; exact hlt)
      have HX := Lib.hid hx
      have hsz := F.out.lt
      obtain ⟨b, o, rfl, hbB, hc⟩ := (H.out.below hb.out).at_ ribF_len (by omega)
      have c0 : wr.cell? ⟨b, o + k * 3, none⟩ = some (.string x.s0) := hc k x 0 _ hx rfl
      have c1 : wr.cell? ⟨b, o + k * 3 + 1, none⟩ = some (.int .i64 x.a1) := hc k x 1 _ hx rfl
      have c2 : wr.cell? ⟨b, o + k * 3 + 2, none⟩ = some (.int .i64 x.a2) := hc k x 2 _ hx rfl
      clear hc hx hxm
      go_wp2_with fail
      refine (toRib_any x.s0 x.a1 x.a2 _).mono ?_
      rintro e w3 ⟨rfl, hb3⟩
      have F3 := Lib.hid (F.out.below hb3 hsz)
      have b3 := Lib.hid (below_more hb.out hb3 (Nat.le_refl _))
      clear hb3 c0 c1 c2 F hb
      obtain ⟨⟨v0, m0⟩, f0⟩ := F3.out.room (j := k * 3) (by omega)
      obtain ⟨⟨v1, m1⟩, f1⟩ := F3.out.room (j := k * 3 + 1) (by omega)
      obtain ⟨⟨v2, m2⟩, f2⟩ := F3.out.room (j := k * 3 + 2) (by omega)
      go_wp2
      have F4 := Lib.hid (fillRib F3.out HX.out hlt)
      have b4 := Lib.hid ((((b3.out.setCell (p := ⟨w.heap.size, k * 3, none⟩) (Nat.le_refl _) (.string x.s0)).setCell (p := ⟨w.heap.size, k * 3 + 1, none⟩) (Nat.le_refl _) (.int .i64 x.a1)).setCell (p := ⟨w.heap.size, k * 3 + 2, none⟩) (Nat.le_refl _) (.int .i64 x.a2)))
      go_roundw
      case rel => exact ⟨k + 1, by omega, by go_num, F4, b4⟩
      case measure => simp [intOf]; omega
    · obtain rfl : k = n := by omega
      go_wp2
      go_ret
      exact ⟨rfl, F.out.done (by rw [flat_len ribF_len, HN.out]), hb.out⟩
set_option maxHeartbeats 1000000 in
theorem eqRibS_refl (A A' : Option Addr) (c c' n : Nat) (ds : List RibD) (w : World) (hn : ds.length = n) (h : Rd w w.heap.size 3 A n (ds.flatMap ribF)) (h' : Rd w w.heap.size 3 A' n (ds.flatMap ribF)) (hm : n ≤ 1048576) :
    Calls Try.prog 50 #[.slice A n c, .slice A' n c'] w fun e w' => e = .returned (.bool true) ∧ Below w.heap.size w w' := by
  have HN := Lib.hid hn
  have H := Lib.hid h
  have H' := Lib.hid h'
  clear hn h h'
  go_enter Try.func50, Try.ntmps50
  go_wp2
  go_loopw [5] (fun i wr => ∃ k : Nat, k ≤ n ∧ i = .int .i64 k ∧ Hid (Below w.heap.size w wr)) (fun i _ => n - (intOf i).toNat)
  case atStart => exact ⟨0, Nat.zero_le _, rfl, Lib.hid (Below.refl _ _)⟩
  case round =>
    obtain ⟨k, hk, rfl, hb⟩ := hrel
    by_cases hlt : k < n
    · obtain ⟨x, hx, hxm⟩ := getD_of (l := ds) (i := k) (by rw [HN.out]; exact hlt)
      obtain ⟨b, o, rfl, hbB, hc⟩ := (H.out.below hb.out).at_ ribF_len (by omega)
      obtain ⟨b', o', rfl, hbB', hc'⟩ := (H'.out.below hb.out).at_ ribF_len (by omega)
      have hsz := hb.out.size
      have c0 : ∀ u : Bel wr.heap.size wr, u.val.cell? ⟨b, o + k * 3, none⟩ = some (.string x.s0) := bel_at (hc k x 0 _ hx rfl) (by omega)
      have d0 : ∀ u : Bel wr.heap.size wr, u.val.cell? ⟨b', o' + k * 3, none⟩ = some (.string x.s0) := bel_at (hc' k x 0 _ hx rfl) (by omega)
      have c1 : ∀ u : Bel wr.heap.size wr, u.val.cell? ⟨b, o + k * 3 + 1, none⟩ = some (.int .i64 x.a1) := bel_at (hc k x 1 _ hx rfl) (by omega)
      have d1 : ∀ u : Bel wr.heap.size wr, u.val.cell? ⟨b', o' + k * 3 + 1, none⟩ = some (.int .i64 x.a1) := bel_at (hc' k x 1 _ hx rfl) (by omega)
      have c2 : ∀ u : Bel wr.heap.size wr, u.val.cell? ⟨b, o + k * 3 + 2, none⟩ = some (.int .i64 x.a2) := bel_at (hc k x 2 _ hx rfl) (by omega)
      have d2 : ∀ u : Bel wr.heap.size wr, u.val.cell? ⟨b', o' + k * 3 + 2, none⟩ = some (.int .i64 x.a2) := bel_at (hc' k x 2 _ hx rfl) (by omega)
      clear hc hc' hx hxm
      have hk0 : (0 : Int) ≤ k := by omega
      have hki : (k : Int) < n := by omega
      have tn : (k : Int).toNat = k := by simp
      go_wp2_with fail
      (refine wp_region_bel wr.heap.size wr (Below.refl _ _) (by kernel_rfl) (by kernel_rfl) ?_; (repeat (go_big_quiet_step ((first | (go_at_call 106; exact bel_of (Nat.le_refl _) (eqRib_refl x _)))))); refine wpQuiet_nil ?_; rintro w1 ⟨⟨_, hb1⟩, rfl⟩)
      clear c0 d0 c1 d1 c2 d2 tn
      have b1 := Lib.hid (below_more hb.out hb1 (Nat.le_refl _))
      go_wp2
      go_roundw
      case rel => exact ⟨k + 1, by omega, by go_num, b1⟩
      case measure => simp [intOf]; omega
    · go_wp2
      go_ret
      exact ⟨rfl, hb.out⟩
structure PartD where
  s0 : ByteArray
  a1 : Int
  a2 : Int
def partF (x : PartD) : List Value := [.string x.s0, .int .i64 x.a1, .int .i64 x.a2]
theorem partF_len (x : PartD) : (partF x).length = 3 := rfl
def partZ (ds : List PartD) : Prop := ∀ x ∈ ds, x.s0.size ≤ maxLen
theorem eqPart_refl (x : PartD) (w : World) :
    Calls Try.prog 111 #[partV x.s0 x.a1 x.a2, partV x.s0 x.a1 x.a2] w fun e w' => e = .returned (.bool true) ∧ Below w.heap.size w w' := by
  go_enter Try.func111, Try.ntmps111
  go_wp2
  go_ret
  exact ⟨rfl, ((Below.refl _ _).alloc (Nat.le_refl _) _).alloc (by simp) _⟩
set_option maxHeartbeats 1000000 in
theorem szPartS_any (A : Option Addr) (c n : Nat) (ds : List PartD) (lf : Int) (w : World) (hn : ds.length = n) (h : Rd w w.heap.size 3 A n (ds.flatMap partF)) (hz : partZ ds) (l0 : 0 ≤ lf) (l1 : lf ≤ 1048576) (hm : n ≤ maxLen) :
    Calls Try.prog 51 #[.slice A n c, .int .i64 lf] w (SzE n lf w) := by
  unfold maxLen at hm
  have HN := Lib.hid hn
  clear hn
  by_cases h0 : lf < n
  · go_enter Try.func51, Try.ntmps51
    go_wp2
    go_ret
    exact ⟨-1, .inl rfl, rfl, Below.refl _ _⟩
  go_enter Try.func51, Try.ntmps51
  go_wp2
  have H := Lib.hid h
  clear h
  go_loopw [1, 5] (fun l i wr => ∃ (k : Nat) (r : Int), k ≤ n ∧ 0 ≤ r ∧ r + n ≤ lf ∧ i = .int .i64 k ∧ l = .int .i64 r ∧ Hid (Below w.heap.size w wr)) (fun _ i _ => n - (intOf i).toNat)
  case atStart => exact ⟨0, lf - n, by omega, by omega, by omega, rfl, rfl, Lib.hid (Below.refl _ _)⟩
  case round =>
    obtain ⟨k, r, hk, r0, r1, rfl, rfl, hb⟩ := hrel
    by_cases hlt : k < n
    · obtain ⟨x, hx, hxm⟩ := getD_of (l := ds) (i := k) (by rw [HN.out]; exact hlt)
      have zx := hz x hxm
      obtain ⟨b, o, rfl, hbB, hc⟩ := (H.out.below hb.out).at_ partF_len (by omega)
      have c0 : wr.cell? ⟨b, o + k * 3, none⟩ = some (.string x.s0) := hc k x 0 _ hx rfl
      have c1 : wr.cell? ⟨b, o + k * 3 + 1, none⟩ = some (.int .i64 x.a1) := hc k x 1 _ hx rfl
      have c2 : wr.cell? ⟨b, o + k * 3 + 2, none⟩ = some (.int .i64 x.a2) := hc k x 2 _ hx rfl
      clear hc hx hxm
      by_cases hs : (x.s0.size : Int) ≤ r
      · go_wp2_with fail
        refine (szPart_ok x.s0 x.a1 x.a2 _ _ r0 (by omega) zx hs).mono ?_
        rintro e w1 ⟨rfl, hb1⟩
        have b1 := Lib.hid (below_more hb.out hb1 (Nat.le_refl _))
        clear hb1 c0 c1 c2 zx
        go_wp2
        go_roundw
        case rel => exact ⟨k + 1, r - (x.s0.size : Int), by omega, by omega, by omega, by go_num, rfl, b1⟩
        case measure => simp [intOf]; omega
      · go_wp2_with fail
        refine (szPart_no x.s0 x.a1 x.a2 _ _ r0 (by omega) zx (by omega)).mono ?_
        rintro e w1 ⟨rfl, hb1⟩
        have b1 := Lib.hid (below_more hb.out hb1 (Nat.le_refl _))
        clear hb1 c0 c1 c2 zx
        go_wp2
        go_ret
        exact ⟨-1, .inl rfl, rfl, b1.out⟩
    · go_wp2
      go_ret
      exact ⟨r, .inr ⟨r0, r1⟩, rfl, hb.out⟩
theorem infoPart : (Try.prog.info? 133).map (fun i => (i.zero, i.size, i.bytes)) = some (some (.agg #[.string ByteArray.empty, .int .i64 0, .int .i64 0]), 3, 32) := by kernel_rfl
theorem fillPart {w : World} {g n k : Nat} {t : TypeId} {ds : List PartD} {x : PartD} (h : Fill w g t (n * 3) (k * 3) (ds.flatMap partF)) (hx : ds[k]? = some x) (hk : k < n) :
    Fill (((w.setCell ⟨g, k * 3, none⟩ (.string x.s0)).setCell ⟨g, k * 3 + 1, none⟩ (.int .i64 x.a1)).setCell ⟨g, k * 3 + 2, none⟩ (.int .i64 x.a2)) g t (n * 3) ((k + 1) * 3) (ds.flatMap partF) := by
  have h0 := h.step (flat_get partF_len ds k 0 x _ hx rfl) (by omega)
  have h1 := h0.step (flat_get partF_len ds k 1 x _ hx rfl) (by omega)
  have h2 := h1.step (flat_get partF_len ds k 2 x _ hx rfl) (by omega)
  rw [show (k + 1) * 3 = k * 3 + 3 by omega]
  exact h2
set_option maxHeartbeats 1000000 in
theorem toPartS_any (A : Option Addr) (c n : Nat) (ds : List PartD) (w : World) (hn : ds.length = n) (h : Rd w w.heap.size 3 A n (ds.flatMap partF)) (hm : n ≤ 1048576) :
    Calls Try.prog 53 #[.slice A n c] w fun e w' => e = .returned (.slice (some ⟨w.heap.size, 0, none⟩) n n) ∧ Blk w' w.heap.size 133 (ds.flatMap partF).toArray ∧ Below w.heap.size w w' := by
  obtain ⟨cs, hcs, _, hmk⟩ := make_run (P := Try.prog) Try.underlying76 infoPart n (by omega) (by unfold maxLen; omega)
  have HN := Lib.hid hn
  have H := Lib.hid h
  have F0 := Lib.hid (Fill.start (xs := ds.flatMap partF) (Blk.new w 133 cs) hcs)
  have b0 := Lib.hid ((Below.refl w.heap.size w).alloc (Nat.le_refl _) (.cells cs 133))
  clear hn h hcs
  go_enter Try.func53, Try.ntmps53
  go_wp2
  clear hmk
  generalize w.alloc (.cells cs 133) = w1 at F0 b0 ⊢
  go_loopw [4] (fun i wr => ∃ k : Nat, k ≤ n ∧ i = .int .i64 k ∧ Hid (Fill wr w.heap.size 133 (n * 3) (k * 3) (ds.flatMap partF)) ∧ Hid (Below w.heap.size w wr)) (fun i _ => n - (intOf i).toNat)
  case atStart => exact ⟨0, Nat.zero_le _, rfl, by rw [Nat.zero_mul]; exact F0, b0⟩
  case round =>
    obtain ⟨k, hk, rfl, F, hb⟩ := hrel
    by_cases hlt : k < n
    · obtain ⟨x, hx, hxm⟩ := getD_of (l := ds) (i := k) (by rw [HN.out]; exact hlt)
      have HX := Lib.hid hx
      have hsz := F.out.lt
      obtain ⟨b, o, rfl, hbB, hc⟩ := (H.out.below hb.out).at_ partF_len (by omega)
      have c0 : wr.cell? ⟨b, o + k * 3, none⟩ = some (.string x.s0) := hc k x 0 _ hx rfl
      have c1 : wr.cell? ⟨b, o + k * 3 + 1, none⟩ = some (.int .i64 x.a1) := hc k x 1 _ hx rfl
      have c2 : wr.cell? ⟨b, o + k * 3 + 2, none⟩ = some (.int .i64 x.a2) := hc k x 2 _ hx rfl
      clear hc hx hxm
      go_wp2_with fail
      refine (toPart_any x.s0 x.a1 x.a2 _).mono ?_
      rintro e w3 ⟨rfl, hb3⟩
      have F3 := Lib.hid (F.out.below hb3 hsz)
      have b3 := Lib.hid (below_more hb.out hb3 (Nat.le_refl _))
      clear hb3 c0 c1 c2 F hb
      obtain ⟨⟨v0, m0⟩, f0⟩ := F3.out.room (j := k * 3) (by omega)
      obtain ⟨⟨v1, m1⟩, f1⟩ := F3.out.room (j := k * 3 + 1) (by omega)
      obtain ⟨⟨v2, m2⟩, f2⟩ := F3.out.room (j := k * 3 + 2) (by omega)
      go_wp2
      have F4 := Lib.hid (fillPart F3.out HX.out hlt)
      have b4 := Lib.hid ((((b3.out.setCell (p := ⟨w.heap.size, k * 3, none⟩) (Nat.le_refl _) (.string x.s0)).setCell (p := ⟨w.heap.size, k * 3 + 1, none⟩) (Nat.le_refl _) (.int .i64 x.a1)).setCell (p := ⟨w.heap.size, k * 3 + 2, none⟩) (Nat.le_refl _) (.int .i64 x.a2)))
      go_roundw
      case rel => exact ⟨k + 1, by omega, by go_num, F4, b4⟩
      case measure => simp [intOf]; omega
    · obtain rfl : k = n := by omega
      go_wp2
      go_ret
      exact ⟨rfl, F.out.done (by rw [flat_len partF_len, HN.out]), hb.out⟩
set_option maxHeartbeats 1000000 in
theorem eqPartS_refl (A A' : Option Addr) (c c' n : Nat) (ds : List PartD) (w : World) (hn : ds.length = n) (h : Rd w w.heap.size 3 A n (ds.flatMap partF)) (h' : Rd w w.heap.size 3 A' n (ds.flatMap partF)) (hm : n ≤ 1048576) :
    Calls Try.prog 55 #[.slice A n c, .slice A' n c'] w fun e w' => e = .returned (.bool true) ∧ Below w.heap.size w w' := by
  have HN := Lib.hid hn
  have H := Lib.hid h
  have H' := Lib.hid h'
  clear hn h h'
  go_enter Try.func55, Try.ntmps55
  go_wp2
  go_loopw [5] (fun i wr => ∃ k : Nat, k ≤ n ∧ i = .int .i64 k ∧ Hid (Below w.heap.size w wr)) (fun i _ => n - (intOf i).toNat)
  case atStart => exact ⟨0, Nat.zero_le _, rfl, Lib.hid (Below.refl _ _)⟩
  case round =>
    obtain ⟨k, hk, rfl, hb⟩ := hrel
    by_cases hlt : k < n
    · obtain ⟨x, hx, hxm⟩ := getD_of (l := ds) (i := k) (by rw [HN.out]; exact hlt)
      obtain ⟨b, o, rfl, hbB, hc⟩ := (H.out.below hb.out).at_ partF_len (by omega)
      obtain ⟨b', o', rfl, hbB', hc'⟩ := (H'.out.below hb.out).at_ partF_len (by omega)
      have hsz := hb.out.size
      have c0 : ∀ u : Bel wr.heap.size wr, u.val.cell? ⟨b, o + k * 3, none⟩ = some (.string x.s0) := bel_at (hc k x 0 _ hx rfl) (by omega)
      have d0 : ∀ u : Bel wr.heap.size wr, u.val.cell? ⟨b', o' + k * 3, none⟩ = some (.string x.s0) := bel_at (hc' k x 0 _ hx rfl) (by omega)
      have c1 : ∀ u : Bel wr.heap.size wr, u.val.cell? ⟨b, o + k * 3 + 1, none⟩ = some (.int .i64 x.a1) := bel_at (hc k x 1 _ hx rfl) (by omega)
      have d1 : ∀ u : Bel wr.heap.size wr, u.val.cell? ⟨b', o' + k * 3 + 1, none⟩ = some (.int .i64 x.a1) := bel_at (hc' k x 1 _ hx rfl) (by omega)
      have c2 : ∀ u : Bel wr.heap.size wr, u.val.cell? ⟨b, o + k * 3 + 2, none⟩ = some (.int .i64 x.a2) := bel_at (hc k x 2 _ hx rfl) (by omega)
      have d2 : ∀ u : Bel wr.heap.size wr, u.val.cell? ⟨b', o' + k * 3 + 2, none⟩ = some (.int .i64 x.a2) := bel_at (hc' k x 2 _ hx rfl) (by omega)
      clear hc hc' hx hxm
      have hk0 : (0 : Int) ≤ k := by omega
      have hki : (k : Int) < n := by omega
      have tn : (k : Int).toNat = k := by simp
      go_wp2_with fail
      (refine wp_region_bel wr.heap.size wr (Below.refl _ _) (by kernel_rfl) (by kernel_rfl) ?_; (repeat (go_big_quiet_step ((first | (go_at_call 111; exact bel_of (Nat.le_refl _) (eqPart_refl x _)))))); refine wpQuiet_nil ?_; rintro w1 ⟨⟨_, hb1⟩, rfl⟩)
      clear c0 d0 c1 d1 c2 d2 tn
      have b1 := Lib.hid (below_more hb.out hb1 (Nat.le_refl _))
      go_wp2
      go_roundw
      case rel => exact ⟨k + 1, by omega, by go_num, b1⟩
      case measure => simp [intOf]; omega
    · go_wp2
      go_ret
      exact ⟨rfl, hb.out⟩
structure ModeD where
  s0 : ByteArray
  a1 : Int
  a2 : Int
def modeF (x : ModeD) : List Value := [.string x.s0, .int .i64 x.a1, .int .i64 x.a2]
theorem modeF_len (x : ModeD) : (modeF x).length = 3 := rfl
def modeZ (ds : List ModeD) : Prop := ∀ x ∈ ds, x.s0.size ≤ maxLen
theorem eqMode_refl (x : ModeD) (w : World) :
    Calls Try.prog 113 #[modeV x.s0 x.a1 x.a2, modeV x.s0 x.a1 x.a2] w fun e w' => e = .returned (.bool true) ∧ Below w.heap.size w w' := by
  go_enter Try.func113, Try.ntmps113
  go_wp2
  go_ret
  exact ⟨rfl, ((Below.refl _ _).alloc (Nat.le_refl _) _).alloc (by simp) _⟩
set_option maxHeartbeats 1000000 in
theorem szModeS_any (A : Option Addr) (c n : Nat) (ds : List ModeD) (lf : Int) (w : World) (hn : ds.length = n) (h : Rd w w.heap.size 3 A n (ds.flatMap modeF)) (hz : modeZ ds) (l0 : 0 ≤ lf) (l1 : lf ≤ 1048576) (hm : n ≤ maxLen) :
    Calls Try.prog 56 #[.slice A n c, .int .i64 lf] w (SzE n lf w) := by
  unfold maxLen at hm
  have HN := Lib.hid hn
  clear hn
  by_cases h0 : lf < n
  · go_enter Try.func56, Try.ntmps56
    go_wp2
    go_ret
    exact ⟨-1, .inl rfl, rfl, Below.refl _ _⟩
  go_enter Try.func56, Try.ntmps56
  go_wp2
  have H := Lib.hid h
  clear h
  go_loopw [1, 5] (fun l i wr => ∃ (k : Nat) (r : Int), k ≤ n ∧ 0 ≤ r ∧ r + n ≤ lf ∧ i = .int .i64 k ∧ l = .int .i64 r ∧ Hid (Below w.heap.size w wr)) (fun _ i _ => n - (intOf i).toNat)
  case atStart => exact ⟨0, lf - n, by omega, by omega, by omega, rfl, rfl, Lib.hid (Below.refl _ _)⟩
  case round =>
    obtain ⟨k, r, hk, r0, r1, rfl, rfl, hb⟩ := hrel
    by_cases hlt : k < n
    · obtain ⟨x, hx, hxm⟩ := getD_of (l := ds) (i := k) (by rw [HN.out]; exact hlt)
      have zx := hz x hxm
      obtain ⟨b, o, rfl, hbB, hc⟩ := (H.out.below hb.out).at_ modeF_len (by omega)
      have c0 : wr.cell? ⟨b, o + k * 3, none⟩ = some (.string x.s0) := hc k x 0 _ hx rfl
      have c1 : wr.cell? ⟨b, o + k * 3 + 1, none⟩ = some (.int .i64 x.a1) := hc k x 1 _ hx rfl
      have c2 : wr.cell? ⟨b, o + k * 3 + 2, none⟩ = some (.int .i64 x.a2) := hc k x 2 _ hx rfl
      clear hc hx hxm
      by_cases hs : (x.s0.size : Int) ≤ r
      · go_wp2_with fail
        refine (szMode_ok x.s0 x.a1 x.a2 _ _ r0 (by omega) zx hs).mono ?_
        rintro e w1 ⟨rfl, hb1⟩
        have b1 := Lib.hid (below_more hb.out hb1 (Nat.le_refl _))
        clear hb1 c0 c1 c2 zx
        go_wp2
        go_roundw
        case rel => exact ⟨k + 1, r - (x.s0.size : Int), by omega, by omega, by omega, by go_num, rfl, b1⟩
        case measure => simp [intOf]; omega
      · go_wp2_with fail
        refine (szMode_no x.s0 x.a1 x.a2 _ _ r0 (by omega) zx (by omega)).mono ?_
        rintro e w1 ⟨rfl, hb1⟩
        have b1 := Lib.hid (below_more hb.out hb1 (Nat.le_refl _))
        clear hb1 c0 c1 c2 zx
        go_wp2
        go_ret
        exact ⟨-1, .inl rfl, rfl, b1.out⟩
    · go_wp2
      go_ret
      exact ⟨r, .inr ⟨r0, r1⟩, rfl, hb.out⟩
theorem infoMode : (Try.prog.info? 34).map (fun i => (i.zero, i.size, i.bytes)) = some (some (.agg #[.string ByteArray.empty, .int .i64 0, .int .i64 0]), 3, 32) := by kernel_rfl
theorem fillMode {w : World} {g n k : Nat} {t : TypeId} {ds : List ModeD} {x : ModeD} (h : Fill w g t (n * 3) (k * 3) (ds.flatMap modeF)) (hx : ds[k]? = some x) (hk : k < n) :
    Fill (((w.setCell ⟨g, k * 3, none⟩ (.string x.s0)).setCell ⟨g, k * 3 + 1, none⟩ (.int .i64 x.a1)).setCell ⟨g, k * 3 + 2, none⟩ (.int .i64 x.a2)) g t (n * 3) ((k + 1) * 3) (ds.flatMap modeF) := by
  have h0 := h.step (flat_get modeF_len ds k 0 x _ hx rfl) (by omega)
  have h1 := h0.step (flat_get modeF_len ds k 1 x _ hx rfl) (by omega)
  have h2 := h1.step (flat_get modeF_len ds k 2 x _ hx rfl) (by omega)
  rw [show (k + 1) * 3 = k * 3 + 3 by omega]
  exact h2
set_option maxHeartbeats 1000000 in
theorem toModeS_any (A : Option Addr) (c n : Nat) (ds : List ModeD) (w : World) (hn : ds.length = n) (h : Rd w w.heap.size 3 A n (ds.flatMap modeF)) (hm : n ≤ 1048576) :
    Calls Try.prog 58 #[.slice A n c] w fun e w' => e = .returned (.slice (some ⟨w.heap.size, 0, none⟩) n n) ∧ Blk w' w.heap.size 34 (ds.flatMap modeF).toArray ∧ Below w.heap.size w w' := by
  obtain ⟨cs, hcs, _, hmk⟩ := make_run (P := Try.prog) Try.underlying83 infoMode n (by omega) (by unfold maxLen; omega)
  have HN := Lib.hid hn
  have H := Lib.hid h
  have F0 := Lib.hid (Fill.start (xs := ds.flatMap modeF) (Blk.new w 34 cs) hcs)
  have b0 := Lib.hid ((Below.refl w.heap.size w).alloc (Nat.le_refl _) (.cells cs 34))
  clear hn h hcs
  go_enter Try.func58, Try.ntmps58
  go_wp2
  clear hmk
  generalize w.alloc (.cells cs 34) = w1 at F0 b0 ⊢
  go_loopw [4] (fun i wr => ∃ k : Nat, k ≤ n ∧ i = .int .i64 k ∧ Hid (Fill wr w.heap.size 34 (n * 3) (k * 3) (ds.flatMap modeF)) ∧ Hid (Below w.heap.size w wr)) (fun i _ => n - (intOf i).toNat)
  case atStart => exact ⟨0, Nat.zero_le _, rfl, by rw [Nat.zero_mul]; exact F0, b0⟩
  case round =>
    obtain ⟨k, hk, rfl, F, hb⟩ := hrel
    by_cases hlt : k < n
    · obtain ⟨x, hx, hxm⟩ := getD_of (l := ds) (i := k) (by rw [HN.out]; exact hlt)
      have HX := Lib.hid hx
      have hsz := F.out.lt
      obtain ⟨b, o, rfl, hbB, hc⟩ := (H.out.below hb.out).at_ modeF_len (by omega)
      have c0 : wr.cell? ⟨b, o + k * 3, none⟩ = some (.string x.s0) := hc k x 0 _ hx rfl
      have c1 : wr.cell? ⟨b, o + k * 3 + 1, none⟩ = some (.int .i64 x.a1) := hc k x 1 _ hx rfl
      have c2 : wr.cell? ⟨b, o + k * 3 + 2, none⟩ = some (.int .i64 x.a2) := hc k x 2 _ hx rfl
      clear hc hx hxm
      go_wp2_with fail
      refine (toMode_any x.s0 x.a1 x.a2 _).mono ?_
      rintro e w3 ⟨rfl, hb3⟩
      have F3 := Lib.hid (F.out.below hb3 hsz)
      have b3 := Lib.hid (below_more hb.out hb3 (Nat.le_refl _))
      clear hb3 c0 c1 c2 F hb
      obtain ⟨⟨v0, m0⟩, f0⟩ := F3.out.room (j := k * 3) (by omega)
      obtain ⟨⟨v1, m1⟩, f1⟩ := F3.out.room (j := k * 3 + 1) (by omega)
      obtain ⟨⟨v2, m2⟩, f2⟩ := F3.out.room (j := k * 3 + 2) (by omega)
      go_wp2
      have F4 := Lib.hid (fillMode F3.out HX.out hlt)
      have b4 := Lib.hid ((((b3.out.setCell (p := ⟨w.heap.size, k * 3, none⟩) (Nat.le_refl _) (.string x.s0)).setCell (p := ⟨w.heap.size, k * 3 + 1, none⟩) (Nat.le_refl _) (.int .i64 x.a1)).setCell (p := ⟨w.heap.size, k * 3 + 2, none⟩) (Nat.le_refl _) (.int .i64 x.a2)))
      go_roundw
      case rel => exact ⟨k + 1, by omega, by go_num, F4, b4⟩
      case measure => simp [intOf]; omega
    · obtain rfl : k = n := by omega
      go_wp2
      go_ret
      exact ⟨rfl, F.out.done (by rw [flat_len modeF_len, HN.out]), hb.out⟩
set_option maxHeartbeats 1000000 in
theorem eqModeS_refl (A A' : Option Addr) (c c' n : Nat) (ds : List ModeD) (w : World) (hn : ds.length = n) (h : Rd w w.heap.size 3 A n (ds.flatMap modeF)) (h' : Rd w w.heap.size 3 A' n (ds.flatMap modeF)) (hm : n ≤ 1048576) :
    Calls Try.prog 60 #[.slice A n c, .slice A' n c'] w fun e w' => e = .returned (.bool true) ∧ Below w.heap.size w w' := by
  have HN := Lib.hid hn
  have H := Lib.hid h
  have H' := Lib.hid h'
  clear hn h h'
  go_enter Try.func60, Try.ntmps60
  go_wp2
  go_loopw [5] (fun i wr => ∃ k : Nat, k ≤ n ∧ i = .int .i64 k ∧ Hid (Below w.heap.size w wr)) (fun i _ => n - (intOf i).toNat)
  case atStart => exact ⟨0, Nat.zero_le _, rfl, Lib.hid (Below.refl _ _)⟩
  case round =>
    obtain ⟨k, hk, rfl, hb⟩ := hrel
    by_cases hlt : k < n
    · obtain ⟨x, hx, hxm⟩ := getD_of (l := ds) (i := k) (by rw [HN.out]; exact hlt)
      obtain ⟨b, o, rfl, hbB, hc⟩ := (H.out.below hb.out).at_ modeF_len (by omega)
      obtain ⟨b', o', rfl, hbB', hc'⟩ := (H'.out.below hb.out).at_ modeF_len (by omega)
      have hsz := hb.out.size
      have c0 : ∀ u : Bel wr.heap.size wr, u.val.cell? ⟨b, o + k * 3, none⟩ = some (.string x.s0) := bel_at (hc k x 0 _ hx rfl) (by omega)
      have d0 : ∀ u : Bel wr.heap.size wr, u.val.cell? ⟨b', o' + k * 3, none⟩ = some (.string x.s0) := bel_at (hc' k x 0 _ hx rfl) (by omega)
      have c1 : ∀ u : Bel wr.heap.size wr, u.val.cell? ⟨b, o + k * 3 + 1, none⟩ = some (.int .i64 x.a1) := bel_at (hc k x 1 _ hx rfl) (by omega)
      have d1 : ∀ u : Bel wr.heap.size wr, u.val.cell? ⟨b', o' + k * 3 + 1, none⟩ = some (.int .i64 x.a1) := bel_at (hc' k x 1 _ hx rfl) (by omega)
      have c2 : ∀ u : Bel wr.heap.size wr, u.val.cell? ⟨b, o + k * 3 + 2, none⟩ = some (.int .i64 x.a2) := bel_at (hc k x 2 _ hx rfl) (by omega)
      have d2 : ∀ u : Bel wr.heap.size wr, u.val.cell? ⟨b', o' + k * 3 + 2, none⟩ = some (.int .i64 x.a2) := bel_at (hc' k x 2 _ hx rfl) (by omega)
      clear hc hc' hx hxm
      have hk0 : (0 : Int) ≤ k := by omega
      have hki : (k : Int) < n := by omega
      have tn : (k : Int).toNat = k := by simp
      go_wp2_with fail
      (refine wp_region_bel wr.heap.size wr (Below.refl _ _) (by kernel_rfl) (by kernel_rfl) ?_; (repeat (go_big_quiet_step ((first | (go_at_call 113; exact bel_of (Nat.le_refl _) (eqMode_refl x _)))))); refine wpQuiet_nil ?_; rintro w1 ⟨⟨_, hb1⟩, rfl⟩)
      clear c0 d0 c1 d1 c2 d2 tn
      have b1 := Lib.hid (below_more hb.out hb1 (Nat.le_refl _))
      go_wp2
      go_roundw
      case rel => exact ⟨k + 1, by omega, by go_num, b1⟩
      case measure => simp [intOf]; omega
    · go_wp2
      go_ret
      exact ⟨rfl, hb.out⟩
structure SettingD where
  s0 : ByteArray
  a1 : Int
def settingF (x : SettingD) : List Value := [.string x.s0, .int .i64 x.a1]
theorem settingF_len (x : SettingD) : (settingF x).length = 2 := rfl
def settingZ (ds : List SettingD) : Prop := ∀ x ∈ ds, x.s0.size ≤ maxLen
theorem eqSetting_refl (x : SettingD) (w : World) :
    Calls Try.prog 99 #[settingV x.s0 x.a1, settingV x.s0 x.a1] w fun e w' => e = .returned (.bool true) ∧ Below w.heap.size w w' := by
  go_enter Try.func99, Try.ntmps99
  go_wp2
  go_ret
  exact ⟨rfl, ((Below.refl _ _).alloc (Nat.le_refl _) _).alloc (by simp) _⟩
set_option maxHeartbeats 1000000 in
theorem szSettingS_any (A : Option Addr) (c n : Nat) (ds : List SettingD) (lf : Int) (w : World) (hn : ds.length = n) (h : Rd w w.heap.size 2 A n (ds.flatMap settingF)) (hz : settingZ ds) (l0 : 0 ≤ lf) (l1 : lf ≤ 1048576) (hm : n ≤ maxLen) :
    Calls Try.prog 39 #[.slice A n c, .int .i64 lf] w (SzE n lf w) := by
  unfold maxLen at hm
  have HN := Lib.hid hn
  clear hn
  by_cases h0 : lf < n
  · go_enter Try.func39, Try.ntmps39
    go_wp2
    go_ret
    exact ⟨-1, .inl rfl, rfl, Below.refl _ _⟩
  go_enter Try.func39, Try.ntmps39
  go_wp2
  have H := Lib.hid h
  clear h
  go_loopw [1, 5] (fun l i wr => ∃ (k : Nat) (r : Int), k ≤ n ∧ 0 ≤ r ∧ r + n ≤ lf ∧ i = .int .i64 k ∧ l = .int .i64 r ∧ Hid (Below w.heap.size w wr)) (fun _ i _ => n - (intOf i).toNat)
  case atStart => exact ⟨0, lf - n, by omega, by omega, by omega, rfl, rfl, Lib.hid (Below.refl _ _)⟩
  case round =>
    obtain ⟨k, r, hk, r0, r1, rfl, rfl, hb⟩ := hrel
    by_cases hlt : k < n
    · obtain ⟨x, hx, hxm⟩ := getD_of (l := ds) (i := k) (by rw [HN.out]; exact hlt)
      have zx := hz x hxm
      obtain ⟨b, o, rfl, hbB, hc⟩ := (H.out.below hb.out).at_ settingF_len (by omega)
      have c0 : wr.cell? ⟨b, o + k * 2, none⟩ = some (.string x.s0) := hc k x 0 _ hx rfl
      have c1 : wr.cell? ⟨b, o + k * 2 + 1, none⟩ = some (.int .i64 x.a1) := hc k x 1 _ hx rfl
      clear hc hx hxm
      by_cases hs : (x.s0.size : Int) ≤ r
      · go_wp2_with fail
        refine (szSetting_ok x.s0 x.a1 _ _ r0 (by omega) zx hs).mono ?_
        rintro e w1 ⟨rfl, hb1⟩
        have b1 := Lib.hid (below_more hb.out hb1 (Nat.le_refl _))
        clear hb1 c0 c1 zx
        go_wp2
        go_roundw
        case rel => exact ⟨k + 1, r - (x.s0.size : Int), by omega, by omega, by omega, by go_num, rfl, b1⟩
        case measure => simp [intOf]; omega
      · go_wp2_with fail
        refine (szSetting_no x.s0 x.a1 _ _ r0 (by omega) zx (by omega)).mono ?_
        rintro e w1 ⟨rfl, hb1⟩
        have b1 := Lib.hid (below_more hb.out hb1 (Nat.le_refl _))
        clear hb1 c0 c1 zx
        go_wp2
        go_ret
        exact ⟨-1, .inl rfl, rfl, b1.out⟩
    · go_wp2
      go_ret
      exact ⟨r, .inr ⟨r0, r1⟩, rfl, hb.out⟩
theorem infoSetting : (Try.prog.info? 120).map (fun i => (i.zero, i.size, i.bytes)) = some (some (.agg #[.string ByteArray.empty, .int .i64 0]), 2, 24) := by kernel_rfl
theorem fillSetting {w : World} {g n k : Nat} {t : TypeId} {ds : List SettingD} {x : SettingD} (h : Fill w g t (n * 2) (k * 2) (ds.flatMap settingF)) (hx : ds[k]? = some x) (hk : k < n) :
    Fill ((w.setCell ⟨g, k * 2, none⟩ (.string x.s0)).setCell ⟨g, k * 2 + 1, none⟩ (.int .i64 x.a1)) g t (n * 2) ((k + 1) * 2) (ds.flatMap settingF) := by
  have h0 := h.step (flat_get settingF_len ds k 0 x _ hx rfl) (by omega)
  have h1 := h0.step (flat_get settingF_len ds k 1 x _ hx rfl) (by omega)
  rw [show (k + 1) * 2 = k * 2 + 2 by omega]
  exact h1
set_option maxHeartbeats 1000000 in
theorem toSettingS_any (A : Option Addr) (c n : Nat) (ds : List SettingD) (w : World) (hn : ds.length = n) (h : Rd w w.heap.size 2 A n (ds.flatMap settingF)) (hm : n ≤ 1048576) :
    Calls Try.prog 41 #[.slice A n c] w fun e w' => e = .returned (.slice (some ⟨w.heap.size, 0, none⟩) n n) ∧ Blk w' w.heap.size 120 (ds.flatMap settingF).toArray ∧ Below w.heap.size w w' := by
  obtain ⟨cs, hcs, _, hmk⟩ := make_run (P := Try.prog) Try.underlying61 infoSetting n (by omega) (by unfold maxLen; omega)
  have HN := Lib.hid hn
  have H := Lib.hid h
  have F0 := Lib.hid (Fill.start (xs := ds.flatMap settingF) (Blk.new w 120 cs) hcs)
  have b0 := Lib.hid ((Below.refl w.heap.size w).alloc (Nat.le_refl _) (.cells cs 120))
  clear hn h hcs
  go_enter Try.func41, Try.ntmps41
  go_wp2
  clear hmk
  generalize w.alloc (.cells cs 120) = w1 at F0 b0 ⊢
  go_loopw [4] (fun i wr => ∃ k : Nat, k ≤ n ∧ i = .int .i64 k ∧ Hid (Fill wr w.heap.size 120 (n * 2) (k * 2) (ds.flatMap settingF)) ∧ Hid (Below w.heap.size w wr)) (fun i _ => n - (intOf i).toNat)
  case atStart => exact ⟨0, Nat.zero_le _, rfl, by rw [Nat.zero_mul]; exact F0, b0⟩
  case round =>
    obtain ⟨k, hk, rfl, F, hb⟩ := hrel
    by_cases hlt : k < n
    · obtain ⟨x, hx, hxm⟩ := getD_of (l := ds) (i := k) (by rw [HN.out]; exact hlt)
      have HX := Lib.hid hx
      have hsz := F.out.lt
      obtain ⟨b, o, rfl, hbB, hc⟩ := (H.out.below hb.out).at_ settingF_len (by omega)
      have c0 : wr.cell? ⟨b, o + k * 2, none⟩ = some (.string x.s0) := hc k x 0 _ hx rfl
      have c1 : wr.cell? ⟨b, o + k * 2 + 1, none⟩ = some (.int .i64 x.a1) := hc k x 1 _ hx rfl
      clear hc hx hxm
      go_wp2_with fail
      refine (toSetting_any x.s0 x.a1 _).mono ?_
      rintro e w3 ⟨rfl, hb3⟩
      have F3 := Lib.hid (F.out.below hb3 hsz)
      have b3 := Lib.hid (below_more hb.out hb3 (Nat.le_refl _))
      clear hb3 c0 c1 F hb
      obtain ⟨⟨v0, m0⟩, f0⟩ := F3.out.room (j := k * 2) (by omega)
      obtain ⟨⟨v1, m1⟩, f1⟩ := F3.out.room (j := k * 2 + 1) (by omega)
      go_wp2
      have F4 := Lib.hid (fillSetting F3.out HX.out hlt)
      have b4 := Lib.hid (((b3.out.setCell (p := ⟨w.heap.size, k * 2, none⟩) (Nat.le_refl _) (.string x.s0)).setCell (p := ⟨w.heap.size, k * 2 + 1, none⟩) (Nat.le_refl _) (.int .i64 x.a1)))
      go_roundw
      case rel => exact ⟨k + 1, by omega, by go_num, F4, b4⟩
      case measure => simp [intOf]; omega
    · obtain rfl : k = n := by omega
      go_wp2
      go_ret
      exact ⟨rfl, F.out.done (by rw [flat_len settingF_len, HN.out]), hb.out⟩
set_option maxHeartbeats 1000000 in
theorem eqSettingS_refl (A A' : Option Addr) (c c' n : Nat) (ds : List SettingD) (w : World) (hn : ds.length = n) (h : Rd w w.heap.size 2 A n (ds.flatMap settingF)) (h' : Rd w w.heap.size 2 A' n (ds.flatMap settingF)) (hm : n ≤ 1048576) :
    Calls Try.prog 43 #[.slice A n c, .slice A' n c'] w fun e w' => e = .returned (.bool true) ∧ Below w.heap.size w w' := by
  have HN := Lib.hid hn
  have H := Lib.hid h
  have H' := Lib.hid h'
  clear hn h h'
  go_enter Try.func43, Try.ntmps43
  go_wp2
  go_loopw [5] (fun i wr => ∃ k : Nat, k ≤ n ∧ i = .int .i64 k ∧ Hid (Below w.heap.size w wr)) (fun i _ => n - (intOf i).toNat)
  case atStart => exact ⟨0, Nat.zero_le _, rfl, Lib.hid (Below.refl _ _)⟩
  case round =>
    obtain ⟨k, hk, rfl, hb⟩ := hrel
    by_cases hlt : k < n
    · obtain ⟨x, hx, hxm⟩ := getD_of (l := ds) (i := k) (by rw [HN.out]; exact hlt)
      obtain ⟨b, o, rfl, hbB, hc⟩ := (H.out.below hb.out).at_ settingF_len (by omega)
      obtain ⟨b', o', rfl, hbB', hc'⟩ := (H'.out.below hb.out).at_ settingF_len (by omega)
      have hsz := hb.out.size
      have c0 : ∀ u : Bel wr.heap.size wr, u.val.cell? ⟨b, o + k * 2, none⟩ = some (.string x.s0) := bel_at (hc k x 0 _ hx rfl) (by omega)
      have d0 : ∀ u : Bel wr.heap.size wr, u.val.cell? ⟨b', o' + k * 2, none⟩ = some (.string x.s0) := bel_at (hc' k x 0 _ hx rfl) (by omega)
      have c1 : ∀ u : Bel wr.heap.size wr, u.val.cell? ⟨b, o + k * 2 + 1, none⟩ = some (.int .i64 x.a1) := bel_at (hc k x 1 _ hx rfl) (by omega)
      have d1 : ∀ u : Bel wr.heap.size wr, u.val.cell? ⟨b', o' + k * 2 + 1, none⟩ = some (.int .i64 x.a1) := bel_at (hc' k x 1 _ hx rfl) (by omega)
      clear hc hc' hx hxm
      have hk0 : (0 : Int) ≤ k := by omega
      have hki : (k : Int) < n := by omega
      have tn : (k : Int).toNat = k := by simp
      go_wp2_with fail
      (refine wp_region_bel wr.heap.size wr (Below.refl _ _) (by kernel_rfl) (by kernel_rfl) ?_; (repeat (go_big_quiet_step ((first | (go_at_call 99; exact bel_of (Nat.le_refl _) (eqSetting_refl x _)))))); refine wpQuiet_nil ?_; rintro w1 ⟨⟨_, hb1⟩, rfl⟩)
      clear c0 d0 c1 d1 tn
      have b1 := Lib.hid (below_more hb.out hb1 (Nat.le_refl _))
      go_wp2
      go_roundw
      case rel => exact ⟨k + 1, by omega, by go_num, b1⟩
      case measure => simp [intOf]; omega
    · go_wp2
      go_ret
      exact ⟨rfl, hb.out⟩
end Go.Proofs.Ytbgbhhaheogjcaa
