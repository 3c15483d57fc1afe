/- Contracts of the structs' conversions and validity tests. -/
import Derived.Test.YtgbpkblhokjbbaaNames
import Derived.Test.YtgbpkblhokjbbaaMem
set_option linter.unusedVariables false
namespace Go.Proofs.Ytgbpkblhokjbbaa
open Go.RowKit

theorem isHole_any (n : Int) (w : World) :
    Calls Try.prog 74 #[.int .i64 n] w fun e w' => e = .returned (.bool (inB n (20) (200))) ∧ w = w' := by
  go_enter Try.func74, Try.ntmps74
  go_wp2_with (go_at_call 71; refine (within_any _ _ _ _).mono ?_; rintro e w' ⟨rfl, rfl⟩)
  go_ret
  exact ⟨rfl, rfl⟩
theorem isWay_any (n : Int) (w : World) :
    Calls Try.prog 60 #[.int .i64 n] w fun e w' => e = .returned (.bool (inB n (0) (1000))) ∧ w = w' := by
  go_enter Try.func60, Try.ntmps60
  go_wp2_with (go_at_call 71; refine (within_any _ _ _ _).mono ?_; rintro e w' ⟨rfl, rfl⟩)
  go_ret
  exact ⟨rfl, rfl⟩
theorem isRentDay_any (n : Int) (w : World) :
    Calls Try.prog 78 #[.int .i64 n] w fun e w' => e = .returned (.bool (inB n (0) (100000))) ∧ w = w' := by
  go_enter Try.func78, Try.ntmps78
  go_wp2_with (go_at_call 71; refine (within_any _ _ _ _).mono ?_; rintro e w' ⟨rfl, rfl⟩)
  go_ret
  exact ⟨rfl, rfl⟩
theorem isMonths_any (n : Int) (w : World) :
    Calls Try.prog 87 #[.int .i64 n] w fun e w' => e = .returned (.bool (inB n (1) (120))) ∧ w = w' := by
  go_enter Try.func87, Try.ntmps87
  go_wp2_with (go_at_call 71; refine (within_any _ _ _ _).mono ?_; rintro e w' ⟨rfl, rfl⟩)
  go_ret
  exact ⟨rfl, rfl⟩
theorem l24Margin_any (n : Int) (w : World) :
    Calls Try.prog 86 #[.int .i64 n] w fun e w' => e = .returned (.bool (inB n (0) (5000))) ∧ w = w' := by
  go_enter Try.func86, Try.ntmps86
  go_wp2_with (go_at_call 85; refine (l00In_any _ _ _ _).mono ?_; rintro e w' ⟨rfl, rfl⟩)
  go_ret
  exact ⟨rfl, rfl⟩
theorem l12Hole_any (n : Int) (w : World) :
    Calls Try.prog 72 #[.int .i64 n] w fun e w' => e = .returned (.bool (inB n (20) (200))) ∧ w = w' := by
  go_enter Try.func72, Try.ntmps72
  go_wp2_with (go_at_call 85; refine (l00In_any _ _ _ _).mono ?_; rintro e w' ⟨rfl, rfl⟩)
  go_ret
  exact ⟨rfl, rfl⟩
theorem l12Way_any (n : Int) (w : World) :
    Calls Try.prog 58 #[.int .i64 n] w fun e w' => e = .returned (.bool (inB n (0) (1000))) ∧ w = w' := by
  go_enter Try.func58, Try.ntmps58
  go_wp2_with (go_at_call 85; refine (l00In_any _ _ _ _).mono ?_; rintro e w' ⟨rfl, rfl⟩)
  go_ret
  exact ⟨rfl, rfl⟩
theorem l21Day_any (n : Int) (w : World) :
    Calls Try.prog 76 #[.int .i64 n] w fun e w' => e = .returned (.bool (inB n (0) (100000))) ∧ w = w' := by
  go_enter Try.func76, Try.ntmps76
  go_wp2_with (go_at_call 85; refine (l00In_any _ _ _ _).mono ?_; rintro e w' ⟨rfl, rfl⟩)
  go_ret
  exact ⟨rfl, rfl⟩
abbrev policyV (s0 : ByteArray) (a1 : Int) (a2 : Int) (a3 : Int) (a4 : Int) : Value := .agg #[.string s0, .int .i64 a1, .int .i64 a2, .int .i64 a3, .int .i64 a4]
abbrev policyC (s0 : ByteArray) (a1 : Int) (a2 : Int) (a3 : Int) (a4 : Int) : Array Value := #[.string s0, .int .i64 a1, .int .i64 a2, .int .i64 a3, .int .i64 a4]
def policyB (s0 : ByteArray) (a1 : Int) (a2 : Int) (a3 : Int) (a4 : Int) : Bool := nameB s0 && (inB a1 0 10000000 && (inB a2 0 1000 && (inB a3 0 10000000 && (inB a4 0 10000000))))
theorem policyB_t {s0 : ByteArray} {a1 : Int} {a2 : Int} {a3 : Int} {a4 : Int} (h : policyB s0 a1 a2 a3 a4 = true) : nameB s0 = true ∧ inB a1 0 10000000 = true ∧ inB a2 0 1000 = true ∧ inB a3 0 10000000 = true ∧ inB a4 0 10000000 = true := by
  simpa [policyB, Bool.and_eq_true] using h
theorem toPolicy_any (s0 : ByteArray) (a1 : Int) (a2 : Int) (a3 : Int) (a4 : Int) (w : World) :
    Calls Try.prog 17 #[policyV s0 a1 a2 a3 a4] w fun e w' => e = .returned (policyV s0 a1 a2 a3 a4) ∧ Below w.heap.size w w' := by
  go_enter Try.func17, Try.ntmps17
  go_wp2
  refine bodyPost_ret (v := policyV s0 a1 a2 a3 a4) (by simp [results, Try.results17, go_sem]) rfl ⟨rfl, ?_⟩
  exact (((Below.refl _ _).alloc (Nat.le_refl _) _).alloc (by simp) _).alloc (by simp; omega) _
theorem szPolicy_ok (s0 : ByteArray) (a1 : Int) (a2 : Int) (a3 : Int) (a4 : Int) (l : Int) (w : World) (l0 : 0 ≤ l) (l1 : l ≤ 1048576) (z0 : s0.size ≤ maxLen) (h : (s0.size : Int) ≤ l) :
    Calls Try.prog 15 #[policyV s0 a1 a2 a3 a4, .int .i64 l] w fun e w' => e = .returned (.int .i64 (l - (s0.size : Int))) ∧ Below w.heap.size w w' := by
  unfold maxLen at z0
  go_enter Try.func15, Try.ntmps15
  go_wp2
  go_ret
  exact ⟨rfl, (Below.refl _ _).alloc (Nat.le_refl _) _⟩
theorem szPolicy_no (s0 : ByteArray) (a1 : Int) (a2 : Int) (a3 : Int) (a4 : Int) (l : Int) (w : World) (l0 : 0 ≤ l) (l1 : l ≤ 1048576) (z0 : s0.size ≤ maxLen) (h : l < (s0.size : Int)) :
    Calls Try.prog 15 #[policyV s0 a1 a2 a3 a4, .int .i64 l] w fun e w' => e = .returned (.int .i64 (-1)) ∧ Below w.heap.size w w' := by
  unfold maxLen at z0
  go_enter Try.func15, Try.ntmps15
  go_wp2
  go_ret
  exact ⟨rfl, (Below.refl _ _).alloc (Nat.le_refl _) _⟩
set_option maxHeartbeats 1000000 in
theorem policyvalid_any (s0 : ByteArray) (a1 : Int) (a2 : Int) (a3 : Int) (a4 : Int) (w : World) (z0 : s0.size ≤ maxLen) :
    Calls Try.prog 49 #[policyV s0 a1 a2 a3 a4] w fun e w' => e = .returned (.bool (policyB s0 a1 a2 a3 a4)) ∧ Below w.heap.size w w' := by
  cases h0 : nameB s0
  · rw [show policyB s0 a1 a2 a3 a4 = false by simp [policyB, h0]]
    go_enter Try.func49, Try.ntmps49
    go_wp2_with (first | (go_at_call 84; refine (IsName_any _ _ (by assumption)).mono ?_; rintro e w' ⟨rfl, rfl⟩) | (go_at_call 68; refine (isMoney_any _ _).mono ?_; rintro e w' ⟨rfl, rfl⟩) | (go_at_call 82; refine (isShare_any _ _).mono ?_; rintro e w' ⟨rfl, rfl⟩))
    go_ret
    exact ⟨rfl, (Below.refl _ _).alloc (Nat.le_refl _) _⟩
  cases h1 : inB a1 0 10000000
  · rw [show policyB s0 a1 a2 a3 a4 = false by simp [policyB, h1]]
    go_enter Try.func49, Try.ntmps49
    go_wp2_with (first | (go_at_call 84; refine (IsName_any _ _ (by assumption)).mono ?_; rintro e w' ⟨rfl, rfl⟩) | (go_at_call 68; refine (isMoney_any _ _).mono ?_; rintro e w' ⟨rfl, rfl⟩) | (go_at_call 82; refine (isShare_any _ _).mono ?_; rintro e w' ⟨rfl, rfl⟩))
    go_ret
    exact ⟨rfl, (Below.refl _ _).alloc (Nat.le_refl _) _⟩
  cases h2 : inB a2 0 1000
  · rw [show policyB s0 a1 a2 a3 a4 = false by simp [policyB, h2]]
    go_enter Try.func49, Try.ntmps49
    go_wp2_with (first | (go_at_call 84; refine (IsName_any _ _ (by assumption)).mono ?_; rintro e w' ⟨rfl, rfl⟩) | (go_at_call 68; refine (isMoney_any _ _).mono ?_; rintro e w' ⟨rfl, rfl⟩) | (go_at_call 82; refine (isShare_any _ _).mono ?_; rintro e w' ⟨rfl, rfl⟩))
    go_ret
    exact ⟨rfl, (Below.refl _ _).alloc (Nat.le_refl _) _⟩
  cases h3 : inB a3 0 10000000
  · rw [show policyB s0 a1 a2 a3 a4 = false by simp [policyB, h3]]
    go_enter Try.func49, Try.ntmps49
    go_wp2_with (first | (go_at_call 84; refine (IsName_any _ _ (by assumption)).mono ?_; rintro e w' ⟨rfl, rfl⟩) | (go_at_call 68; refine (isMoney_any _ _).mono ?_; rintro e w' ⟨rfl, rfl⟩) | (go_at_call 82; refine (isShare_any _ _).mono ?_; rintro e w' ⟨rfl, rfl⟩))
    go_ret
    exact ⟨rfl, (Below.refl _ _).alloc (Nat.le_refl _) _⟩
  cases h4 : inB a4 0 10000000
  · rw [show policyB s0 a1 a2 a3 a4 = false by simp [policyB, h4]]
    go_enter Try.func49, Try.ntmps49
    go_wp2_with (first | (go_at_call 84; refine (IsName_any _ _ (by assumption)).mono ?_; rintro e w' ⟨rfl, rfl⟩) | (go_at_call 68; refine (isMoney_any _ _).mono ?_; rintro e w' ⟨rfl, rfl⟩) | (go_at_call 82; refine (isShare_any _ _).mono ?_; rintro e w' ⟨rfl, rfl⟩))
    go_ret
    exact ⟨rfl, (Below.refl _ _).alloc (Nat.le_refl _) _⟩
  rw [show policyB s0 a1 a2 a3 a4 = true by simp [policyB, h0, h1, h2, h3, h4]]
  go_enter Try.func49, Try.ntmps49
  go_wp2_with (first | (go_at_call 84; refine (IsName_any _ _ (by assumption)).mono ?_; rintro e w' ⟨rfl, rfl⟩) | (go_at_call 68; refine (isMoney_any _ _).mono ?_; rintro e w' ⟨rfl, rfl⟩) | (go_at_call 82; refine (isShare_any _ _).mono ?_; rintro e w' ⟨rfl, rfl⟩))
  go_ret
  exact ⟨rfl, (Below.refl _ _).alloc (Nat.le_refl _) _⟩
theorem policyvalid_is {s0 : ByteArray} {a1 : Int} {a2 : Int} {a3 : Int} {a4 : Int} {b : Bool} (h : policyB s0 a1 a2 a3 a4 = b) (w : World) (z0 : s0.size ≤ maxLen) :
    Calls Try.prog 49 #[policyV s0 a1 a2 a3 a4] w fun e w' => e = .returned (.bool b) ∧ Below w.heap.size w w' := by
  rw [← h]; exact policyvalid_any _ _ _ _ _ w z0
set_option maxHeartbeats 1000000 in
theorem policyone_any (s0 : ByteArray) (a1 : Int) (a2 : Int) (a3 : Int) (a4 : Int) (N : Nat) (w : World) (z0 : s0.size ≤ maxLen) (hk : Blk w N 26 #[.string s0, .int .i64 a1, .int .i64 a2, .int .i64 a3, .int .i64 a4]) :
    Calls Try.prog 47 #[.pointer (some ⟨N, 0, none⟩)] w fun e w' => e = .returned (.bool (policyB s0 a1 a2 a3 a4)) ∧ w = w' := by
  have hc := hk.cell
  cases h0 : nameB s0
  · rw [show policyB s0 a1 a2 a3 a4 = false by simp [policyB, h0]]
    go_enter Try.func47, Try.ntmps47
    go_wp2_with (first | (go_at_call 83; refine (l01Name_any _ _ (by assumption)).mono ?_; rintro e w' ⟨rfl, rfl⟩) | (go_at_call 66; refine (l21Money_any _ _).mono ?_; rintro e w' ⟨rfl, rfl⟩) | (go_at_call 80; refine (l21Share_any _ _).mono ?_; rintro e w' ⟨rfl, rfl⟩))
    go_ret
    exact ⟨rfl, rfl⟩
  cases h1 : inB a1 0 10000000
  · rw [show policyB s0 a1 a2 a3 a4 = false by simp [policyB, h1]]
    go_enter Try.func47, Try.ntmps47
    go_wp2_with (first | (go_at_call 83; refine (l01Name_any _ _ (by assumption)).mono ?_; rintro e w' ⟨rfl, rfl⟩) | (go_at_call 66; refine (l21Money_any _ _).mono ?_; rintro e w' ⟨rfl, rfl⟩) | (go_at_call 80; refine (l21Share_any _ _).mono ?_; rintro e w' ⟨rfl, rfl⟩))
    go_ret
    exact ⟨rfl, rfl⟩
  cases h2 : inB a2 0 1000
  · rw [show policyB s0 a1 a2 a3 a4 = false by simp [policyB, h2]]
    go_enter Try.func47, Try.ntmps47
    go_wp2_with (first | (go_at_call 83; refine (l01Name_any _ _ (by assumption)).mono ?_; rintro e w' ⟨rfl, rfl⟩) | (go_at_call 66; refine (l21Money_any _ _).mono ?_; rintro e w' ⟨rfl, rfl⟩) | (go_at_call 80; refine (l21Share_any _ _).mono ?_; rintro e w' ⟨rfl, rfl⟩))
    go_ret
    exact ⟨rfl, rfl⟩
  cases h3 : inB a3 0 10000000
  · rw [show policyB s0 a1 a2 a3 a4 = false by simp [policyB, h3]]
    go_enter Try.func47, Try.ntmps47
    go_wp2_with (first | (go_at_call 83; refine (l01Name_any _ _ (by assumption)).mono ?_; rintro e w' ⟨rfl, rfl⟩) | (go_at_call 66; refine (l21Money_any _ _).mono ?_; rintro e w' ⟨rfl, rfl⟩) | (go_at_call 80; refine (l21Share_any _ _).mono ?_; rintro e w' ⟨rfl, rfl⟩))
    go_ret
    exact ⟨rfl, rfl⟩
  cases h4 : inB a4 0 10000000
  · rw [show policyB s0 a1 a2 a3 a4 = false by simp [policyB, h4]]
    go_enter Try.func47, Try.ntmps47
    go_wp2_with (first | (go_at_call 83; refine (l01Name_any _ _ (by assumption)).mono ?_; rintro e w' ⟨rfl, rfl⟩) | (go_at_call 66; refine (l21Money_any _ _).mono ?_; rintro e w' ⟨rfl, rfl⟩) | (go_at_call 80; refine (l21Share_any _ _).mono ?_; rintro e w' ⟨rfl, rfl⟩))
    go_ret
    exact ⟨rfl, rfl⟩
  rw [show policyB s0 a1 a2 a3 a4 = true by simp [policyB, h0, h1, h2, h3, h4]]
  go_enter Try.func47, Try.ntmps47
  go_wp2_with (first | (go_at_call 83; refine (l01Name_any _ _ (by assumption)).mono ?_; rintro e w' ⟨rfl, rfl⟩) | (go_at_call 66; refine (l21Money_any _ _).mono ?_; rintro e w' ⟨rfl, rfl⟩) | (go_at_call 80; refine (l21Share_any _ _).mono ?_; rintro e w' ⟨rfl, rfl⟩))
  go_ret
  exact ⟨rfl, rfl⟩
theorem policyone_is {s0 : ByteArray} {a1 : Int} {a2 : Int} {a3 : Int} {a4 : Int} {N : Nat} {b : Bool} (h : policyB s0 a1 a2 a3 a4 = b) (w : World) (z0 : s0.size ≤ maxLen) (hk : Blk w N 26 #[.string s0, .int .i64 a1, .int .i64 a2, .int .i64 a3, .int .i64 a4]) :
    Calls Try.prog 47 #[.pointer (some ⟨N, 0, none⟩)] w fun e w' => e = .returned (.bool b) ∧ w = w' := by
  rw [← h]; exact policyone_any _ _ _ _ _ N w z0 hk
abbrev quoteV (s0 : ByteArray) (a1 : Int) (a2 : Int) (a3 : Int) (a4 : Int) : Value := .agg #[.string s0, .int .i64 a1, .int .i64 a2, .int .i64 a3, .int .i64 a4]
abbrev quoteC (s0 : ByteArray) (a1 : Int) (a2 : Int) (a3 : Int) (a4 : Int) : Array Value := #[.string s0, .int .i64 a1, .int .i64 a2, .int .i64 a3, .int .i64 a4]
def quoteB (s0 : ByteArray) (a1 : Int) (a2 : Int) (a3 : Int) (a4 : Int) : Bool := nameB s0 && (inB a1 0 1000 && (inB a2 0 20000 && (inB a3 0 10000000 && (inB a4 0 5000))))
theorem quoteB_t {s0 : ByteArray} {a1 : Int} {a2 : Int} {a3 : Int} {a4 : Int} (h : quoteB s0 a1 a2 a3 a4 = true) : nameB s0 = true ∧ inB a1 0 1000 = true ∧ inB a2 0 20000 = true ∧ inB a3 0 10000000 = true ∧ inB a4 0 5000 = true := by
  simpa [quoteB, Bool.and_eq_true] using h
theorem toQuote_any (s0 : ByteArray) (a1 : Int) (a2 : Int) (a3 : Int) (a4 : Int) (w : World) :
    Calls Try.prog 21 #[quoteV s0 a1 a2 a3 a4] w fun e w' => e = .returned (quoteV s0 a1 a2 a3 a4) ∧ Below w.heap.size w w' := by
  go_enter Try.func21, Try.ntmps21
  go_wp2
  refine bodyPost_ret (v := quoteV s0 a1 a2 a3 a4) (by simp [results, Try.results21, go_sem]) rfl ⟨rfl, ?_⟩
  exact (((Below.refl _ _).alloc (Nat.le_refl _) _).alloc (by simp) _).alloc (by simp; omega) _
theorem szQuote_ok (s0 : ByteArray) (a1 : Int) (a2 : Int) (a3 : Int) (a4 : Int) (l : Int) (w : World) (l0 : 0 ≤ l) (l1 : l ≤ 1048576) (z0 : s0.size ≤ maxLen) (h : (s0.size : Int) ≤ l) :
    Calls Try.prog 19 #[quoteV s0 a1 a2 a3 a4, .int .i64 l] w fun e w' => e = .returned (.int .i64 (l - (s0.size : Int))) ∧ Below w.heap.size w w' := by
  unfold maxLen at z0
  go_enter Try.func19, Try.ntmps19
  go_wp2
  go_ret
  exact ⟨rfl, (Below.refl _ _).alloc (Nat.le_refl _) _⟩
theorem szQuote_no (s0 : ByteArray) (a1 : Int) (a2 : Int) (a3 : Int) (a4 : Int) (l : Int) (w : World) (l0 : 0 ≤ l) (l1 : l ≤ 1048576) (z0 : s0.size ≤ maxLen) (h : l < (s0.size : Int)) :
    Calls Try.prog 19 #[quoteV s0 a1 a2 a3 a4, .int .i64 l] w fun e w' => e = .returned (.int .i64 (-1)) ∧ Below w.heap.size w w' := by
  unfold maxLen at z0
  go_enter Try.func19, Try.ntmps19
  go_wp2
  go_ret
  exact ⟨rfl, (Below.refl _ _).alloc (Nat.le_refl _) _⟩
set_option maxHeartbeats 1000000 in
theorem quotevalid_any (s0 : ByteArray) (a1 : Int) (a2 : Int) (a3 : Int) (a4 : Int) (w : World) (z0 : s0.size ≤ maxLen) :
    Calls Try.prog 53 #[quoteV s0 a1 a2 a3 a4] w fun e w' => e = .returned (.bool (quoteB s0 a1 a2 a3 a4)) ∧ Below w.heap.size w w' := by
  cases h0 : nameB s0
  · rw [show quoteB s0 a1 a2 a3 a4 = false by simp [quoteB, h0]]
    go_enter Try.func53, Try.ntmps53
    go_wp2_with (first | (go_at_call 84; refine (IsName_any _ _ (by assumption)).mono ?_; rintro e w' ⟨rfl, rfl⟩) | (go_at_call 71; refine (within_any _ _ _ _).mono ?_; rintro e w' ⟨rfl, rfl⟩) | (go_at_call 68; refine (isMoney_any _ _).mono ?_; rintro e w' ⟨rfl, rfl⟩))
    go_ret
    exact ⟨rfl, (Below.refl _ _).alloc (Nat.le_refl _) _⟩
  cases h1 : inB a1 0 1000
  · rw [show quoteB s0 a1 a2 a3 a4 = false by simp [quoteB, h1]]
    go_enter Try.func53, Try.ntmps53
    go_wp2_with (first | (go_at_call 84; refine (IsName_any _ _ (by assumption)).mono ?_; rintro e w' ⟨rfl, rfl⟩) | (go_at_call 71; refine (within_any _ _ _ _).mono ?_; rintro e w' ⟨rfl, rfl⟩) | (go_at_call 68; refine (isMoney_any _ _).mono ?_; rintro e w' ⟨rfl, rfl⟩))
    go_ret
    exact ⟨rfl, (Below.refl _ _).alloc (Nat.le_refl _) _⟩
  cases h2 : inB a2 0 20000
  · rw [show quoteB s0 a1 a2 a3 a4 = false by simp [quoteB, h2]]
    go_enter Try.func53, Try.ntmps53
    go_wp2_with (first | (go_at_call 84; refine (IsName_any _ _ (by assumption)).mono ?_; rintro e w' ⟨rfl, rfl⟩) | (go_at_call 71; refine (within_any _ _ _ _).mono ?_; rintro e w' ⟨rfl, rfl⟩) | (go_at_call 68; refine (isMoney_any _ _).mono ?_; rintro e w' ⟨rfl, rfl⟩))
    go_ret
    exact ⟨rfl, (Below.refl _ _).alloc (Nat.le_refl _) _⟩
  cases h3 : inB a3 0 10000000
  · rw [show quoteB s0 a1 a2 a3 a4 = false by simp [quoteB, h3]]
    go_enter Try.func53, Try.ntmps53
    go_wp2_with (first | (go_at_call 84; refine (IsName_any _ _ (by assumption)).mono ?_; rintro e w' ⟨rfl, rfl⟩) | (go_at_call 71; refine (within_any _ _ _ _).mono ?_; rintro e w' ⟨rfl, rfl⟩) | (go_at_call 68; refine (isMoney_any _ _).mono ?_; rintro e w' ⟨rfl, rfl⟩))
    go_ret
    exact ⟨rfl, (Below.refl _ _).alloc (Nat.le_refl _) _⟩
  cases h4 : inB a4 0 5000
  · rw [show quoteB s0 a1 a2 a3 a4 = false by simp [quoteB, h4]]
    go_enter Try.func53, Try.ntmps53
    go_wp2_with (first | (go_at_call 84; refine (IsName_any _ _ (by assumption)).mono ?_; rintro e w' ⟨rfl, rfl⟩) | (go_at_call 71; refine (within_any _ _ _ _).mono ?_; rintro e w' ⟨rfl, rfl⟩) | (go_at_call 68; refine (isMoney_any _ _).mono ?_; rintro e w' ⟨rfl, rfl⟩))
    go_ret
    exact ⟨rfl, (Below.refl _ _).alloc (Nat.le_refl _) _⟩
  rw [show quoteB s0 a1 a2 a3 a4 = true by simp [quoteB, h0, h1, h2, h3, h4]]
  go_enter Try.func53, Try.ntmps53
  go_wp2_with (first | (go_at_call 84; refine (IsName_any _ _ (by assumption)).mono ?_; rintro e w' ⟨rfl, rfl⟩) | (go_at_call 71; refine (within_any _ _ _ _).mono ?_; rintro e w' ⟨rfl, rfl⟩) | (go_at_call 68; refine (isMoney_any _ _).mono ?_; rintro e w' ⟨rfl, rfl⟩))
  go_ret
  exact ⟨rfl, (Below.refl _ _).alloc (Nat.le_refl _) _⟩
theorem quotevalid_is {s0 : ByteArray} {a1 : Int} {a2 : Int} {a3 : Int} {a4 : Int} {b : Bool} (h : quoteB s0 a1 a2 a3 a4 = b) (w : World) (z0 : s0.size ≤ maxLen) :
    Calls Try.prog 53 #[quoteV s0 a1 a2 a3 a4] w fun e w' => e = .returned (.bool b) ∧ Below w.heap.size w w' := by
  rw [← h]; exact quotevalid_any _ _ _ _ _ w z0
set_option maxHeartbeats 1000000 in
theorem quoteone_any (s0 : ByteArray) (a1 : Int) (a2 : Int) (a3 : Int) (a4 : Int) (N : Nat) (w : World) (z0 : s0.size ≤ maxLen) (hk : Blk w N 34 #[.string s0, .int .i64 a1, .int .i64 a2, .int .i64 a3, .int .i64 a4]) :
    Calls Try.prog 51 #[.pointer (some ⟨N, 0, none⟩)] w fun e w' => e = .returned (.bool (quoteB s0 a1 a2 a3 a4)) ∧ w = w' := by
  have hc := hk.cell
  cases h0 : nameB s0
  · rw [show quoteB s0 a1 a2 a3 a4 = false by simp [quoteB, h0]]
    go_enter Try.func51, Try.ntmps51
    go_wp2_with (first | (go_at_call 83; refine (l01Name_any _ _ (by assumption)).mono ?_; rintro e w' ⟨rfl, rfl⟩) | (go_at_call 85; refine (l00In_any _ _ _ _).mono ?_; rintro e w' ⟨rfl, rfl⟩) | (go_at_call 66; refine (l21Money_any _ _).mono ?_; rintro e w' ⟨rfl, rfl⟩) | (go_at_call 86; refine (l24Margin_any _ _).mono ?_; rintro e w' ⟨rfl, rfl⟩))
    go_ret
    exact ⟨rfl, rfl⟩
  cases h1 : inB a1 0 1000
  · rw [show quoteB s0 a1 a2 a3 a4 = false by simp [quoteB, h1]]
    go_enter Try.func51, Try.ntmps51
    go_wp2_with (first | (go_at_call 83; refine (l01Name_any _ _ (by assumption)).mono ?_; rintro e w' ⟨rfl, rfl⟩) | (go_at_call 85; refine (l00In_any _ _ _ _).mono ?_; rintro e w' ⟨rfl, rfl⟩) | (go_at_call 66; refine (l21Money_any _ _).mono ?_; rintro e w' ⟨rfl, rfl⟩) | (go_at_call 86; refine (l24Margin_any _ _).mono ?_; rintro e w' ⟨rfl, rfl⟩))
    go_ret
    exact ⟨rfl, rfl⟩
  cases h2 : inB a2 0 20000
  · rw [show quoteB s0 a1 a2 a3 a4 = false by simp [quoteB, h2]]
    go_enter Try.func51, Try.ntmps51
    go_wp2_with (first | (go_at_call 83; refine (l01Name_any _ _ (by assumption)).mono ?_; rintro e w' ⟨rfl, rfl⟩) | (go_at_call 85; refine (l00In_any _ _ _ _).mono ?_; rintro e w' ⟨rfl, rfl⟩) | (go_at_call 66; refine (l21Money_any _ _).mono ?_; rintro e w' ⟨rfl, rfl⟩) | (go_at_call 86; refine (l24Margin_any _ _).mono ?_; rintro e w' ⟨rfl, rfl⟩))
    go_ret
    exact ⟨rfl, rfl⟩
  cases h3 : inB a3 0 10000000
  · rw [show quoteB s0 a1 a2 a3 a4 = false by simp [quoteB, h3]]
    go_enter Try.func51, Try.ntmps51
    go_wp2_with (first | (go_at_call 83; refine (l01Name_any _ _ (by assumption)).mono ?_; rintro e w' ⟨rfl, rfl⟩) | (go_at_call 85; refine (l00In_any _ _ _ _).mono ?_; rintro e w' ⟨rfl, rfl⟩) | (go_at_call 66; refine (l21Money_any _ _).mono ?_; rintro e w' ⟨rfl, rfl⟩) | (go_at_call 86; refine (l24Margin_any _ _).mono ?_; rintro e w' ⟨rfl, rfl⟩))
    go_ret
    exact ⟨rfl, rfl⟩
  cases h4 : inB a4 0 5000
  · rw [show quoteB s0 a1 a2 a3 a4 = false by simp [quoteB, h4]]
    go_enter Try.func51, Try.ntmps51
    go_wp2_with (first | (go_at_call 83; refine (l01Name_any _ _ (by assumption)).mono ?_; rintro e w' ⟨rfl, rfl⟩) | (go_at_call 85; refine (l00In_any _ _ _ _).mono ?_; rintro e w' ⟨rfl, rfl⟩) | (go_at_call 66; refine (l21Money_any _ _).mono ?_; rintro e w' ⟨rfl, rfl⟩) | (go_at_call 86; refine (l24Margin_any _ _).mono ?_; rintro e w' ⟨rfl, rfl⟩))
    go_ret
    exact ⟨rfl, rfl⟩
  rw [show quoteB s0 a1 a2 a3 a4 = true by simp [quoteB, h0, h1, h2, h3, h4]]
  go_enter Try.func51, Try.ntmps51
  go_wp2_with (first | (go_at_call 83; refine (l01Name_any _ _ (by assumption)).mono ?_; rintro e w' ⟨rfl, rfl⟩) | (go_at_call 85; refine (l00In_any _ _ _ _).mono ?_; rintro e w' ⟨rfl, rfl⟩) | (go_at_call 66; refine (l21Money_any _ _).mono ?_; rintro e w' ⟨rfl, rfl⟩) | (go_at_call 86; refine (l24Margin_any _ _).mono ?_; rintro e w' ⟨rfl, rfl⟩))
  go_ret
  exact ⟨rfl, rfl⟩
theorem quoteone_is {s0 : ByteArray} {a1 : Int} {a2 : Int} {a3 : Int} {a4 : Int} {N : Nat} {b : Bool} (h : quoteB s0 a1 a2 a3 a4 = b) (w : World) (z0 : s0.size ≤ maxLen) (hk : Blk w N 34 #[.string s0, .int .i64 a1, .int .i64 a2, .int .i64 a3, .int .i64 a4]) :
    Calls Try.prog 51 #[.pointer (some ⟨N, 0, none⟩)] w fun e w' => e = .returned (.bool b) ∧ w = w' := by
  rw [← h]; exact quoteone_any _ _ _ _ _ N w z0 hk
abbrev rentalV (s0 : ByteArray) (s1 : ByteArray) (a2 : Int) (a3 : Int) (a4 : Int) : Value := .agg #[.string s0, .string s1, .int .i64 a2, .int .i64 a3, .int .i64 a4]
abbrev rentalC (s0 : ByteArray) (s1 : ByteArray) (a2 : Int) (a3 : Int) (a4 : Int) : Array Value := #[.string s0, .string s1, .int .i64 a2, .int .i64 a3, .int .i64 a4]
def rentalB (s0 : ByteArray) (s1 : ByteArray) (a2 : Int) (a3 : Int) (a4 : Int) : Bool := nameB s0 && (nameB s1 && (inB a2 0 100000 && (inB a3 1 120 && (inB a4 0 10000000))))
theorem rentalB_t {s0 : ByteArray} {s1 : ByteArray} {a2 : Int} {a3 : Int} {a4 : Int} (h : rentalB s0 s1 a2 a3 a4 = true) : nameB s0 = true ∧ nameB s1 = true ∧ inB a2 0 100000 = true ∧ inB a3 1 120 = true ∧ inB a4 0 10000000 = true := by
  simpa [rentalB, Bool.and_eq_true] using h
theorem toRental_any (s0 : ByteArray) (s1 : ByteArray) (a2 : Int) (a3 : Int) (a4 : Int) (w : World) :
    Calls Try.prog 31 #[rentalV s0 s1 a2 a3 a4] w fun e w' => e = .returned (rentalV s0 s1 a2 a3 a4) ∧ Below w.heap.size w w' := by
  go_enter Try.func31, Try.ntmps31
  go_wp2
  refine bodyPost_ret (v := rentalV s0 s1 a2 a3 a4) (by simp [results, Try.results31, go_sem]) rfl ⟨rfl, ?_⟩
  exact (((Below.refl _ _).alloc (Nat.le_refl _) _).alloc (by simp) _).alloc (by simp; omega) _
theorem szRental_ok (s0 : ByteArray) (s1 : ByteArray) (a2 : Int) (a3 : Int) (a4 : Int) (l : Int) (w : World) (l0 : 0 ≤ l) (l1 : l ≤ 1048576) (z0 : s0.size ≤ maxLen) (z1 : s1.size ≤ maxLen) (h : (s0.size : Int) + (s1.size : Int) ≤ l) :
    Calls Try.prog 29 #[rentalV s0 s1 a2 a3 a4, .int .i64 l] w fun e w' => e = .returned (.int .i64 (l - (s0.size : Int) - (s1.size : Int))) ∧ Below w.heap.size w w' := by
  unfold maxLen at z0 z1
  have h' : (s0.size : Int) ≤ l := by omega
  all_goals
    go_enter Try.func29, Try.ntmps29
    go_wp2
    go_ret
    exact ⟨rfl, (Below.refl _ _).alloc (Nat.le_refl _) _⟩
theorem szRental_no (s0 : ByteArray) (s1 : ByteArray) (a2 : Int) (a3 : Int) (a4 : Int) (l : Int) (w : World) (l0 : 0 ≤ l) (l1 : l ≤ 1048576) (z0 : s0.size ≤ maxLen) (z1 : s1.size ≤ maxLen) (h : l < (s0.size : Int) + (s1.size : Int)) :
    Calls Try.prog 29 #[rentalV s0 s1 a2 a3 a4, .int .i64 l] w fun e w' => e = .returned (.int .i64 (-1)) ∧ Below w.heap.size w w' := by
  unfold maxLen at z0 z1
  by_cases h' : (s0.size : Int) ≤ l
  all_goals
    go_enter Try.func29, Try.ntmps29
    go_wp2
    go_ret
    exact ⟨rfl, (Below.refl _ _).alloc (Nat.le_refl _) _⟩
set_option maxHeartbeats 1000000 in
theorem rentalvalid_any (s0 : ByteArray) (s1 : ByteArray) (a2 : Int) (a3 : Int) (a4 : Int) (w : World) (z0 : s0.size ≤ maxLen) (z1 : s1.size ≤ maxLen) :
    Calls Try.prog 64 #[rentalV s0 s1 a2 a3 a4] w fun e w' => e = .returned (.bool (rentalB s0 s1 a2 a3 a4)) ∧ Below w.heap.size w w' := by
  cases h0 : nameB s0
  · rw [show rentalB s0 s1 a2 a3 a4 = false by simp [rentalB, h0]]
    go_enter Try.func64, Try.ntmps64
    go_wp2_with (first | (go_at_call 84; refine (IsName_any _ _ (by assumption)).mono ?_; rintro e w' ⟨rfl, rfl⟩) | (go_at_call 78; refine (isRentDay_any _ _).mono ?_; rintro e w' ⟨rfl, rfl⟩) | (go_at_call 87; refine (isMonths_any _ _).mono ?_; rintro e w' ⟨rfl, rfl⟩) | (go_at_call 68; refine (isMoney_any _ _).mono ?_; rintro e w' ⟨rfl, rfl⟩))
    go_ret
    exact ⟨rfl, (Below.refl _ _).alloc (Nat.le_refl _) _⟩
  cases h1 : nameB s1
  · rw [show rentalB s0 s1 a2 a3 a4 = false by simp [rentalB, h1]]
    go_enter Try.func64, Try.ntmps64
    go_wp2_with (first | (go_at_call 84; refine (IsName_any _ _ (by assumption)).mono ?_; rintro e w' ⟨rfl, rfl⟩) | (go_at_call 78; refine (isRentDay_any _ _).mono ?_; rintro e w' ⟨rfl, rfl⟩) | (go_at_call 87; refine (isMonths_any _ _).mono ?_; rintro e w' ⟨rfl, rfl⟩) | (go_at_call 68; refine (isMoney_any _ _).mono ?_; rintro e w' ⟨rfl, rfl⟩))
    go_ret
    exact ⟨rfl, (Below.refl _ _).alloc (Nat.le_refl _) _⟩
  cases h2 : inB a2 0 100000
  · rw [show rentalB s0 s1 a2 a3 a4 = false by simp [rentalB, h2]]
    go_enter Try.func64, Try.ntmps64
    go_wp2_with (first | (go_at_call 84; refine (IsName_any _ _ (by assumption)).mono ?_; rintro e w' ⟨rfl, rfl⟩) | (go_at_call 78; refine (isRentDay_any _ _).mono ?_; rintro e w' ⟨rfl, rfl⟩) | (go_at_call 87; refine (isMonths_any _ _).mono ?_; rintro e w' ⟨rfl, rfl⟩) | (go_at_call 68; refine (isMoney_any _ _).mono ?_; rintro e w' ⟨rfl, rfl⟩))
    go_ret
    exact ⟨rfl, (Below.refl _ _).alloc (Nat.le_refl _) _⟩
  cases h3 : inB a3 1 120
  · rw [show rentalB s0 s1 a2 a3 a4 = false by simp [rentalB, h3]]
    go_enter Try.func64, Try.ntmps64
    go_wp2_with (first | (go_at_call 84; refine (IsName_any _ _ (by assumption)).mono ?_; rintro e w' ⟨rfl, rfl⟩) | (go_at_call 78; refine (isRentDay_any _ _).mono ?_; rintro e w' ⟨rfl, rfl⟩) | (go_at_call 87; refine (isMonths_any _ _).mono ?_; rintro e w' ⟨rfl, rfl⟩) | (go_at_call 68; refine (isMoney_any _ _).mono ?_; rintro e w' ⟨rfl, rfl⟩))
    go_ret
    exact ⟨rfl, (Below.refl _ _).alloc (Nat.le_refl _) _⟩
  cases h4 : inB a4 0 10000000
  · rw [show rentalB s0 s1 a2 a3 a4 = false by simp [rentalB, h4]]
    go_enter Try.func64, Try.ntmps64
    go_wp2_with (first | (go_at_call 84; refine (IsName_any _ _ (by assumption)).mono ?_; rintro e w' ⟨rfl, rfl⟩) | (go_at_call 78; refine (isRentDay_any _ _).mono ?_; rintro e w' ⟨rfl, rfl⟩) | (go_at_call 87; refine (isMonths_any _ _).mono ?_; rintro e w' ⟨rfl, rfl⟩) | (go_at_call 68; refine (isMoney_any _ _).mono ?_; rintro e w' ⟨rfl, rfl⟩))
    go_ret
    exact ⟨rfl, (Below.refl _ _).alloc (Nat.le_refl _) _⟩
  rw [show rentalB s0 s1 a2 a3 a4 = true by simp [rentalB, h0, h1, h2, h3, h4]]
  go_enter Try.func64, Try.ntmps64
  go_wp2_with (first | (go_at_call 84; refine (IsName_any _ _ (by assumption)).mono ?_; rintro e w' ⟨rfl, rfl⟩) | (go_at_call 78; refine (isRentDay_any _ _).mono ?_; rintro e w' ⟨rfl, rfl⟩) | (go_at_call 87; refine (isMonths_any _ _).mono ?_; rintro e w' ⟨rfl, rfl⟩) | (go_at_call 68; refine (isMoney_any _ _).mono ?_; rintro e w' ⟨rfl, rfl⟩))
  go_ret
  exact ⟨rfl, (Below.refl _ _).alloc (Nat.le_refl _) _⟩
theorem rentalvalid_is {s0 : ByteArray} {s1 : ByteArray} {a2 : Int} {a3 : Int} {a4 : Int} {b : Bool} (h : rentalB s0 s1 a2 a3 a4 = b) (w : World) (z0 : s0.size ≤ maxLen) (z1 : s1.size ≤ maxLen) :
    Calls Try.prog 64 #[rentalV s0 s1 a2 a3 a4] w fun e w' => e = .returned (.bool b) ∧ Below w.heap.size w w' := by
  rw [← h]; exact rentalvalid_any _ _ _ _ _ w z0 z1
set_option maxHeartbeats 1000000 in
theorem rentalone_any (s0 : ByteArray) (s1 : ByteArray) (a2 : Int) (a3 : Int) (a4 : Int) (N : Nat) (w : World) (z0 : s0.size ≤ maxLen) (z1 : s1.size ≤ maxLen) (hk : Blk w N 48 #[.string s0, .string s1, .int .i64 a2, .int .i64 a3, .int .i64 a4]) :
    Calls Try.prog 62 #[.pointer (some ⟨N, 0, none⟩)] w fun e w' => e = .returned (.bool (rentalB s0 s1 a2 a3 a4)) ∧ w = w' := by
  have hc := hk.cell
  cases h0 : nameB s0
  · rw [show rentalB s0 s1 a2 a3 a4 = false by simp [rentalB, h0]]
    go_enter Try.func62, Try.ntmps62
    go_wp2_with (first | (go_at_call 83; refine (l01Name_any _ _ (by assumption)).mono ?_; rintro e w' ⟨rfl, rfl⟩) | (go_at_call 76; refine (l21Day_any _ _).mono ?_; rintro e w' ⟨rfl, rfl⟩) | (go_at_call 85; refine (l00In_any _ _ _ _).mono ?_; rintro e w' ⟨rfl, rfl⟩) | (go_at_call 66; refine (l21Money_any _ _).mono ?_; rintro e w' ⟨rfl, rfl⟩))
    go_ret
    exact ⟨rfl, rfl⟩
  cases h1 : nameB s1
  · rw [show rentalB s0 s1 a2 a3 a4 = false by simp [rentalB, h1]]
    go_enter Try.func62, Try.ntmps62
    go_wp2_with (first | (go_at_call 83; refine (l01Name_any _ _ (by assumption)).mono ?_; rintro e w' ⟨rfl, rfl⟩) | (go_at_call 76; refine (l21Day_any _ _).mono ?_; rintro e w' ⟨rfl, rfl⟩) | (go_at_call 85; refine (l00In_any _ _ _ _).mono ?_; rintro e w' ⟨rfl, rfl⟩) | (go_at_call 66; refine (l21Money_any _ _).mono ?_; rintro e w' ⟨rfl, rfl⟩))
    go_ret
    exact ⟨rfl, rfl⟩
  cases h2 : inB a2 0 100000
  · rw [show rentalB s0 s1 a2 a3 a4 = false by simp [rentalB, h2]]
    go_enter Try.func62, Try.ntmps62
    go_wp2_with (first | (go_at_call 83; refine (l01Name_any _ _ (by assumption)).mono ?_; rintro e w' ⟨rfl, rfl⟩) | (go_at_call 76; refine (l21Day_any _ _).mono ?_; rintro e w' ⟨rfl, rfl⟩) | (go_at_call 85; refine (l00In_any _ _ _ _).mono ?_; rintro e w' ⟨rfl, rfl⟩) | (go_at_call 66; refine (l21Money_any _ _).mono ?_; rintro e w' ⟨rfl, rfl⟩))
    go_ret
    exact ⟨rfl, rfl⟩
  cases h3 : inB a3 1 120
  · rw [show rentalB s0 s1 a2 a3 a4 = false by simp [rentalB, h3]]
    go_enter Try.func62, Try.ntmps62
    go_wp2_with (first | (go_at_call 83; refine (l01Name_any _ _ (by assumption)).mono ?_; rintro e w' ⟨rfl, rfl⟩) | (go_at_call 76; refine (l21Day_any _ _).mono ?_; rintro e w' ⟨rfl, rfl⟩) | (go_at_call 85; refine (l00In_any _ _ _ _).mono ?_; rintro e w' ⟨rfl, rfl⟩) | (go_at_call 66; refine (l21Money_any _ _).mono ?_; rintro e w' ⟨rfl, rfl⟩))
    go_ret
    exact ⟨rfl, rfl⟩
  cases h4 : inB a4 0 10000000
  · rw [show rentalB s0 s1 a2 a3 a4 = false by simp [rentalB, h4]]
    go_enter Try.func62, Try.ntmps62
    go_wp2_with (first | (go_at_call 83; refine (l01Name_any _ _ (by assumption)).mono ?_; rintro e w' ⟨rfl, rfl⟩) | (go_at_call 76; refine (l21Day_any _ _).mono ?_; rintro e w' ⟨rfl, rfl⟩) | (go_at_call 85; refine (l00In_any _ _ _ _).mono ?_; rintro e w' ⟨rfl, rfl⟩) | (go_at_call 66; refine (l21Money_any _ _).mono ?_; rintro e w' ⟨rfl, rfl⟩))
    go_ret
    exact ⟨rfl, rfl⟩
  rw [show rentalB s0 s1 a2 a3 a4 = true by simp [rentalB, h0, h1, h2, h3, h4]]
  go_enter Try.func62, Try.ntmps62
  go_wp2_with (first | (go_at_call 83; refine (l01Name_any _ _ (by assumption)).mono ?_; rintro e w' ⟨rfl, rfl⟩) | (go_at_call 76; refine (l21Day_any _ _).mono ?_; rintro e w' ⟨rfl, rfl⟩) | (go_at_call 85; refine (l00In_any _ _ _ _).mono ?_; rintro e w' ⟨rfl, rfl⟩) | (go_at_call 66; refine (l21Money_any _ _).mono ?_; rintro e w' ⟨rfl, rfl⟩))
  go_ret
  exact ⟨rfl, rfl⟩
theorem rentalone_is {s0 : ByteArray} {s1 : ByteArray} {a2 : Int} {a3 : Int} {a4 : Int} {N : Nat} {b : Bool} (h : rentalB s0 s1 a2 a3 a4 = b) (w : World) (z0 : s0.size ≤ maxLen) (z1 : s1.size ≤ maxLen) (hk : Blk w N 48 #[.string s0, .string s1, .int .i64 a2, .int .i64 a3, .int .i64 a4]) :
    Calls Try.prog 62 #[.pointer (some ⟨N, 0, none⟩)] w fun e w' => e = .returned (.bool b) ∧ w = w' := by
  rw [← h]; exact rentalone_any _ _ _ _ _ N w z0 z1 hk
abbrev pegV (s0 : ByteArray) (a1 : Int) (a2 : Int) (a3 : Int) : Value := .agg #[.string s0, .int .i64 a1, .int .i64 a2, .int .i64 a3]
abbrev pegC (s0 : ByteArray) (a1 : Int) (a2 : Int) (a3 : Int) : Array Value := #[.string s0, .int .i64 a1, .int .i64 a2, .int .i64 a3]
def pegB (s0 : ByteArray) (a1 : Int) (a2 : Int) (a3 : Int) : Bool := nameB s0 && (inB a1 20 200 && (inB a2 100 1000 && (inB a3 10 100)))
theorem pegB_t {s0 : ByteArray} {a1 : Int} {a2 : Int} {a3 : Int} (h : pegB s0 a1 a2 a3 = true) : nameB s0 = true ∧ inB a1 20 200 = true ∧ inB a2 100 1000 = true ∧ inB a3 10 100 = true := by
  simpa [pegB, Bool.and_eq_true] using h
theorem toPeg_any (s0 : ByteArray) (a1 : Int) (a2 : Int) (a3 : Int) (w : World) :
    Calls Try.prog 27 #[pegV s0 a1 a2 a3] w fun e w' => e = .returned (pegV s0 a1 a2 a3) ∧ Below w.heap.size w w' := by
  go_enter Try.func27, Try.ntmps27
  go_wp2
  refine bodyPost_ret (v := pegV s0 a1 a2 a3) (by simp [results, Try.results27, go_sem]) rfl ⟨rfl, ?_⟩
  exact (((Below.refl _ _).alloc (Nat.le_refl _) _).alloc (by simp) _).alloc (by simp; omega) _
theorem szPeg_ok (s0 : ByteArray) (a1 : Int) (a2 : Int) (a3 : Int) (l : Int) (w : World) (l0 : 0 ≤ l) (l1 : l ≤ 1048576) (z0 : s0.size ≤ maxLen) (h : (s0.size : Int) ≤ l) :
    Calls Try.prog 25 #[pegV s0 a1 a2 a3, .int .i64 l] w fun e w' => e = .returned (.int .i64 (l - (s0.size : Int))) ∧ Below w.heap.size w w' := by
  unfold maxLen at z0
  go_enter Try.func25, Try.ntmps25
  go_wp2
  go_ret
  exact ⟨rfl, (Below.refl _ _).alloc (Nat.le_refl _) _⟩
theorem szPeg_no (s0 : ByteArray) (a1 : Int) (a2 : Int) (a3 : Int) (l : Int) (w : World) (l0 : 0 ≤ l) (l1 : l ≤ 1048576) (z0 : s0.size ≤ maxLen) (h : l < (s0.size : Int)) :
    Calls Try.prog 25 #[pegV s0 a1 a2 a3, .int .i64 l] w fun e w' => e = .returned (.int .i64 (-1)) ∧ Below w.heap.size w w' := by
  unfold maxLen at z0
  go_enter Try.func25, Try.ntmps25
  go_wp2
  go_ret
  exact ⟨rfl, (Below.refl _ _).alloc (Nat.le_refl _) _⟩
set_option maxHeartbeats 1000000 in
theorem pegvalid_any (s0 : ByteArray) (a1 : Int) (a2 : Int) (a3 : Int) (w : World) (z0 : s0.size ≤ maxLen) :
    Calls Try.prog 59 #[pegV s0 a1 a2 a3] w fun e w' => e = .returned (.bool (pegB s0 a1 a2 a3)) ∧ Below w.heap.size w w' := by
  cases h0 : nameB s0
  · rw [show pegB s0 a1 a2 a3 = false by simp [pegB, h0]]
    go_enter Try.func59, Try.ntmps59
    go_wp2_with (first | (go_at_call 84; refine (IsName_any _ _ (by assumption)).mono ?_; rintro e w' ⟨rfl, rfl⟩) | (go_at_call 74; refine (isHole_any _ _).mono ?_; rintro e w' ⟨rfl, rfl⟩) | (go_at_call 71; refine (within_any _ _ _ _).mono ?_; rintro e w' ⟨rfl, rfl⟩))
    go_ret
    exact ⟨rfl, (Below.refl _ _).alloc (Nat.le_refl _) _⟩
  cases h1 : inB a1 20 200
  · rw [show pegB s0 a1 a2 a3 = false by simp [pegB, h1]]
    go_enter Try.func59, Try.ntmps59
    go_wp2_with (first | (go_at_call 84; refine (IsName_any _ _ (by assumption)).mono ?_; rintro e w' ⟨rfl, rfl⟩) | (go_at_call 74; refine (isHole_any _ _).mono ?_; rintro e w' ⟨rfl, rfl⟩) | (go_at_call 71; refine (within_any _ _ _ _).mono ?_; rintro e w' ⟨rfl, rfl⟩))
    go_ret
    exact ⟨rfl, (Below.refl _ _).alloc (Nat.le_refl _) _⟩
  cases h2 : inB a2 100 1000
  · rw [show pegB s0 a1 a2 a3 = false by simp [pegB, h2]]
    go_enter Try.func59, Try.ntmps59
    go_wp2_with (first | (go_at_call 84; refine (IsName_any _ _ (by assumption)).mono ?_; rintro e w' ⟨rfl, rfl⟩) | (go_at_call 74; refine (isHole_any _ _).mono ?_; rintro e w' ⟨rfl, rfl⟩) | (go_at_call 71; refine (within_any _ _ _ _).mono ?_; rintro e w' ⟨rfl, rfl⟩))
    go_ret
    exact ⟨rfl, (Below.refl _ _).alloc (Nat.le_refl _) _⟩
  cases h3 : inB a3 10 100
  · rw [show pegB s0 a1 a2 a3 = false by simp [pegB, h3]]
    go_enter Try.func59, Try.ntmps59
    go_wp2_with (first | (go_at_call 84; refine (IsName_any _ _ (by assumption)).mono ?_; rintro e w' ⟨rfl, rfl⟩) | (go_at_call 74; refine (isHole_any _ _).mono ?_; rintro e w' ⟨rfl, rfl⟩) | (go_at_call 71; refine (within_any _ _ _ _).mono ?_; rintro e w' ⟨rfl, rfl⟩))
    go_ret
    exact ⟨rfl, (Below.refl _ _).alloc (Nat.le_refl _) _⟩
  rw [show pegB s0 a1 a2 a3 = true by simp [pegB, h0, h1, h2, h3]]
  go_enter Try.func59, Try.ntmps59
  go_wp2_with (first | (go_at_call 84; refine (IsName_any _ _ (by assumption)).mono ?_; rintro e w' ⟨rfl, rfl⟩) | (go_at_call 74; refine (isHole_any _ _).mono ?_; rintro e w' ⟨rfl, rfl⟩) | (go_at_call 71; refine (within_any _ _ _ _).mono ?_; rintro e w' ⟨rfl, rfl⟩))
  go_ret
  exact ⟨rfl, (Below.refl _ _).alloc (Nat.le_refl _) _⟩
theorem pegvalid_is {s0 : ByteArray} {a1 : Int} {a2 : Int} {a3 : Int} {b : Bool} (h : pegB s0 a1 a2 a3 = b) (w : World) (z0 : s0.size ≤ maxLen) :
    Calls Try.prog 59 #[pegV s0 a1 a2 a3] w fun e w' => e = .returned (.bool b) ∧ Below w.heap.size w w' := by
  rw [← h]; exact pegvalid_any _ _ _ _ w z0
set_option maxHeartbeats 1000000 in
theorem pegone_any (s0 : ByteArray) (a1 : Int) (a2 : Int) (a3 : Int) (N : Nat) (w : World) (z0 : s0.size ≤ maxLen) (hk : Blk w N 41 #[.string s0, .int .i64 a1, .int .i64 a2, .int .i64 a3]) :
    Calls Try.prog 57 #[.pointer (some ⟨N, 0, none⟩)] w fun e w' => e = .returned (.bool (pegB s0 a1 a2 a3)) ∧ w = w' := by
  have hc := hk.cell
  cases h0 : nameB s0
  · rw [show pegB s0 a1 a2 a3 = false by simp [pegB, h0]]
    go_enter Try.func57, Try.ntmps57
    go_wp2_with (first | (go_at_call 83; refine (l01Name_any _ _ (by assumption)).mono ?_; rintro e w' ⟨rfl, rfl⟩) | (go_at_call 72; refine (l12Hole_any _ _).mono ?_; rintro e w' ⟨rfl, rfl⟩) | (go_at_call 85; refine (l00In_any _ _ _ _).mono ?_; rintro e w' ⟨rfl, rfl⟩))
    go_ret
    exact ⟨rfl, rfl⟩
  cases h1 : inB a1 20 200
  · rw [show pegB s0 a1 a2 a3 = false by simp [pegB, h1]]
    go_enter Try.func57, Try.ntmps57
    go_wp2_with (first | (go_at_call 83; refine (l01Name_any _ _ (by assumption)).mono ?_; rintro e w' ⟨rfl, rfl⟩) | (go_at_call 72; refine (l12Hole_any _ _).mono ?_; rintro e w' ⟨rfl, rfl⟩) | (go_at_call 85; refine (l00In_any _ _ _ _).mono ?_; rintro e w' ⟨rfl, rfl⟩))
    go_ret
    exact ⟨rfl, rfl⟩
  cases h2 : inB a2 100 1000
  · rw [show pegB s0 a1 a2 a3 = false by simp [pegB, h2]]
    go_enter Try.func57, Try.ntmps57
    go_wp2_with (first | (go_at_call 83; refine (l01Name_any _ _ (by assumption)).mono ?_; rintro e w' ⟨rfl, rfl⟩) | (go_at_call 72; refine (l12Hole_any _ _).mono ?_; rintro e w' ⟨rfl, rfl⟩) | (go_at_call 85; refine (l00In_any _ _ _ _).mono ?_; rintro e w' ⟨rfl, rfl⟩))
    go_ret
    exact ⟨rfl, rfl⟩
  cases h3 : inB a3 10 100
  · rw [show pegB s0 a1 a2 a3 = false by simp [pegB, h3]]
    go_enter Try.func57, Try.ntmps57
    go_wp2_with (first | (go_at_call 83; refine (l01Name_any _ _ (by assumption)).mono ?_; rintro e w' ⟨rfl, rfl⟩) | (go_at_call 72; refine (l12Hole_any _ _).mono ?_; rintro e w' ⟨rfl, rfl⟩) | (go_at_call 85; refine (l00In_any _ _ _ _).mono ?_; rintro e w' ⟨rfl, rfl⟩))
    go_ret
    exact ⟨rfl, rfl⟩
  rw [show pegB s0 a1 a2 a3 = true by simp [pegB, h0, h1, h2, h3]]
  go_enter Try.func57, Try.ntmps57
  go_wp2_with (first | (go_at_call 83; refine (l01Name_any _ _ (by assumption)).mono ?_; rintro e w' ⟨rfl, rfl⟩) | (go_at_call 72; refine (l12Hole_any _ _).mono ?_; rintro e w' ⟨rfl, rfl⟩) | (go_at_call 85; refine (l00In_any _ _ _ _).mono ?_; rintro e w' ⟨rfl, rfl⟩))
  go_ret
  exact ⟨rfl, rfl⟩
theorem pegone_is {s0 : ByteArray} {a1 : Int} {a2 : Int} {a3 : Int} {N : Nat} {b : Bool} (h : pegB s0 a1 a2 a3 = b) (w : World) (z0 : s0.size ≤ maxLen) (hk : Blk w N 41 #[.string s0, .int .i64 a1, .int .i64 a2, .int .i64 a3]) :
    Calls Try.prog 57 #[.pointer (some ⟨N, 0, none⟩)] w fun e w' => e = .returned (.bool b) ∧ w = w' := by
  rw [← h]; exact pegone_any _ _ _ _ N w z0 hk
end Go.Proofs.Ytgbpkblhokjbbaa
