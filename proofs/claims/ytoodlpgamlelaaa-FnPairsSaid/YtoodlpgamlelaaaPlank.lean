/- Planks: conversions, validity, gaps. -/
import Derived.Test.YtoodlpgamlelaaaNames
import Derived.Test.YtoodlpgamlelaaaNum
import Derived.Test.YtoodlpgamlelaaaMem
import Derived.Test.YtoodlpgamlelaaaRd
import Derived.Test.YtoodlpgamlelaaaOrd
import Derived.Test.YtoodlpgamlelaaaDiv
set_option linter.unusedVariables false
set_option linter.unusedSimpArgs false
namespace Go.Proofs.Ytoodlpgamlelaaa
open Go.RowKit

theorem l03Size_any (n : Int) (w : World) :
    Calls Try.prog 44 #[.int .i64 n] w fun e w' => e = .returned (.bool (inB n (1) (2000))) ∧ w = w' := by
  go_enter Try.func44, Try.ntmps44
  go_wp2_with (go_at_call 28; refine (l00In_any _ _ _ _).mono ?_; rintro e w' ⟨rfl, rfl⟩)
  go_ret
  exact ⟨rfl, rfl⟩
theorem isPiece_any {a b : Int} (c : Int) (w : World) :
    Calls Try.prog 42 #[.int .i64 a, .int .i64 b, .int .i64 c] w fun e w' => e = .returned (.bool (inB a 1 2000 && (inB b 1 2000 && inB c 1 2000))) ∧ w = w' := by
  cases h1 : inB a 1 2000
  · go_enter Try.func42, Try.ntmps42
    go_wp2_with ((go_at_call 20; refine (within_any _ _ _ _).mono ?_; rintro e w' ⟨rfl, rfl⟩))
    go_ret
    exact ⟨rfl, rfl⟩
  cases h2 : inB b 1 2000
  · go_enter Try.func42, Try.ntmps42
    go_wp2_with ((go_at_call 20; refine (within_any _ _ _ _).mono ?_; rintro e w' ⟨rfl, rfl⟩))
    go_ret
    exact ⟨rfl, rfl⟩
  cases h3 : inB c 1 2000
  all_goals (
    go_enter Try.func42, Try.ntmps42
    go_wp2_with ((go_at_call 20; refine (within_any _ _ _ _).mono ?_; rintro e w' ⟨rfl, rfl⟩))
    go_ret
    exact ⟨rfl, rfl⟩)
abbrev plankV (s0 : ByteArray) (a1 : Int) (a2 : Int) (a3 : Int) (a4 : Int) (a5 : Int) : Value := .agg #[.string s0, .int .i64 a1, .int .i64 a2, .int .i64 a3, .int .i64 a4, .int .i64 a5]
abbrev plankC (s0 : ByteArray) (a1 : Int) (a2 : Int) (a3 : Int) (a4 : Int) (a5 : Int) : Array Value := #[.string s0, .int .i64 a1, .int .i64 a2, .int .i64 a3, .int .i64 a4, .int .i64 a5]
def plankB (s0 : ByteArray) (a1 : Int) (a2 : Int) (a3 : Int) (a4 : Int) (a5 : Int) : Bool := nameB s0 && (inB a1 1 2000 && (inB a2 1 2000 && (inB a3 1 2000 && (inB a4 1 100000 && (inB a5 1 500)))))
theorem plankB_t {s0 : ByteArray} {a1 : Int} {a2 : Int} {a3 : Int} {a4 : Int} {a5 : Int} (h : plankB s0 a1 a2 a3 a4 a5 = true) : nameB s0 = true ∧ inB a1 1 2000 = true ∧ inB a2 1 2000 = true ∧ inB a3 1 2000 = true ∧ inB a4 1 100000 = true ∧ inB a5 1 500 = true := by
  simpa [plankB, Bool.and_eq_true] using h
theorem toPlank_any (s0 : ByteArray) (a1 : Int) (a2 : Int) (a3 : Int) (a4 : Int) (a5 : Int) (w : World) :
    Calls Try.prog 31 #[plankV s0 a1 a2 a3 a4 a5] w fun e w' => e = .returned (plankV s0 a1 a2 a3 a4 a5) ∧ Below w.heap.size w w' := by
  go_enter Try.func31, Try.ntmps31
  go_wp2
  refine bodyPost_ret (v := plankV s0 a1 a2 a3 a4 a5) (by simp [results, Try.results31, go_sem]) rfl ⟨rfl, ?_⟩
  exact (((Below.refl _ _).alloc (Nat.le_refl _) _).alloc (by simp) _).alloc (by simp; omega) _
theorem szPlank_ok (s0 : ByteArray) (a1 : Int) (a2 : Int) (a3 : Int) (a4 : Int) (a5 : Int) (l : Int) (w : World) (l0 : 0 ≤ l) (l1 : l ≤ 1048576) (z0 : s0.size ≤ maxLen) (h : (s0.size : Int) ≤ l) :
    Calls Try.prog 26 #[plankV s0 a1 a2 a3 a4 a5, .int .i64 l] w fun e w' => e = .returned (.int .i64 (l - (s0.size : Int))) ∧ Below w.heap.size w w' := by
  unfold maxLen at z0
  go_enter Try.func26, Try.ntmps26
  go_wp2
  go_ret
  exact ⟨rfl, (Below.refl _ _).alloc (Nat.le_refl _) _⟩
theorem szPlank_no (s0 : ByteArray) (a1 : Int) (a2 : Int) (a3 : Int) (a4 : Int) (a5 : Int) (l : Int) (w : World) (l0 : 0 ≤ l) (l1 : l ≤ 1048576) (z0 : s0.size ≤ maxLen) (h : l < (s0.size : Int)) :
    Calls Try.prog 26 #[plankV s0 a1 a2 a3 a4 a5, .int .i64 l] w fun e w' => e = .returned (.int .i64 (-1)) ∧ Below w.heap.size w w' := by
  unfold maxLen at z0
  go_enter Try.func26, Try.ntmps26
  go_wp2
  go_ret
  exact ⟨rfl, (Below.refl _ _).alloc (Nat.le_refl _) _⟩
set_option maxHeartbeats 1000000 in
theorem plankvalid_any (s0 : ByteArray) (a1 : Int) (a2 : Int) (a3 : Int) (a4 : Int) (a5 : Int) (w : World) (z0 : s0.size ≤ maxLen) :
    Calls Try.prog 22 #[plankV s0 a1 a2 a3 a4 a5] w fun e w' => e = .returned (.bool (plankB s0 a1 a2 a3 a4 a5)) ∧ Below w.heap.size w w' := by
  cases h0 : nameB s0
  · rw [show plankB s0 a1 a2 a3 a4 a5 = false by simp [plankB, h0]]
    go_enter Try.func22, Try.ntmps22
    go_wp2_with (first | (go_at_call 41; refine (IsName_any _ _ (by assumption)).mono ?_; rintro e w' ⟨rfl, rfl⟩) | (go_at_call 42; refine (isPiece_any _ _).mono ?_; rintro e w' ⟨rfl, rfl⟩) | (go_at_call 20; refine (within_any _ _ _ _).mono ?_; rintro e w' ⟨rfl, rfl⟩))
    go_ret
    exact ⟨rfl, (Below.refl _ _).alloc (Nat.le_refl _) _⟩
  cases h1 : inB a1 1 2000
  · rw [show plankB s0 a1 a2 a3 a4 a5 = false by simp [plankB, h1]]
    go_enter Try.func22, Try.ntmps22
    go_wp2_with (first | (go_at_call 41; refine (IsName_any _ _ (by assumption)).mono ?_; rintro e w' ⟨rfl, rfl⟩) | (go_at_call 42; refine (isPiece_any _ _).mono ?_; rintro e w' ⟨rfl, rfl⟩) | (go_at_call 20; refine (within_any _ _ _ _).mono ?_; rintro e w' ⟨rfl, rfl⟩))
    go_ret
    exact ⟨rfl, (Below.refl _ _).alloc (Nat.le_refl _) _⟩
  cases h2 : inB a2 1 2000
  · rw [show plankB s0 a1 a2 a3 a4 a5 = false by simp [plankB, h2]]
    go_enter Try.func22, Try.ntmps22
    go_wp2_with (first | (go_at_call 41; refine (IsName_any _ _ (by assumption)).mono ?_; rintro e w' ⟨rfl, rfl⟩) | (go_at_call 42; refine (isPiece_any _ _).mono ?_; rintro e w' ⟨rfl, rfl⟩) | (go_at_call 20; refine (within_any _ _ _ _).mono ?_; rintro e w' ⟨rfl, rfl⟩))
    go_ret
    exact ⟨rfl, (Below.refl _ _).alloc (Nat.le_refl _) _⟩
  cases h3 : inB a3 1 2000
  · rw [show plankB s0 a1 a2 a3 a4 a5 = false by simp [plankB, h3]]
    go_enter Try.func22, Try.ntmps22
    go_wp2_with (first | (go_at_call 41; refine (IsName_any _ _ (by assumption)).mono ?_; rintro e w' ⟨rfl, rfl⟩) | (go_at_call 42; refine (isPiece_any _ _).mono ?_; rintro e w' ⟨rfl, rfl⟩) | (go_at_call 20; refine (within_any _ _ _ _).mono ?_; rintro e w' ⟨rfl, rfl⟩))
    go_ret
    exact ⟨rfl, (Below.refl _ _).alloc (Nat.le_refl _) _⟩
  cases h4 : inB a4 1 100000
  · rw [show plankB s0 a1 a2 a3 a4 a5 = false by simp [plankB, h4]]
    go_enter Try.func22, Try.ntmps22
    go_wp2_with (first | (go_at_call 41; refine (IsName_any _ _ (by assumption)).mono ?_; rintro e w' ⟨rfl, rfl⟩) | (go_at_call 42; refine (isPiece_any _ _).mono ?_; rintro e w' ⟨rfl, rfl⟩) | (go_at_call 20; refine (within_any _ _ _ _).mono ?_; rintro e w' ⟨rfl, rfl⟩))
    go_ret
    exact ⟨rfl, (Below.refl _ _).alloc (Nat.le_refl _) _⟩
  cases h5 : inB a5 1 500
  · rw [show plankB s0 a1 a2 a3 a4 a5 = false by simp [plankB, h5]]
    go_enter Try.func22, Try.ntmps22
    go_wp2_with (first | (go_at_call 41; refine (IsName_any _ _ (by assumption)).mono ?_; rintro e w' ⟨rfl, rfl⟩) | (go_at_call 42; refine (isPiece_any _ _).mono ?_; rintro e w' ⟨rfl, rfl⟩) | (go_at_call 20; refine (within_any _ _ _ _).mono ?_; rintro e w' ⟨rfl, rfl⟩))
    go_ret
    exact ⟨rfl, (Below.refl _ _).alloc (Nat.le_refl _) _⟩
  rw [show plankB s0 a1 a2 a3 a4 a5 = true by simp [plankB, h0, h1, h2, h3, h4, h5]]
  go_enter Try.func22, Try.ntmps22
  go_wp2_with (first | (go_at_call 41; refine (IsName_any _ _ (by assumption)).mono ?_; rintro e w' ⟨rfl, rfl⟩) | (go_at_call 42; refine (isPiece_any _ _).mono ?_; rintro e w' ⟨rfl, rfl⟩) | (go_at_call 20; refine (within_any _ _ _ _).mono ?_; rintro e w' ⟨rfl, rfl⟩))
  go_ret
  exact ⟨rfl, (Below.refl _ _).alloc (Nat.le_refl _) _⟩
theorem plankvalid_is {s0 : ByteArray} {a1 : Int} {a2 : Int} {a3 : Int} {a4 : Int} {a5 : Int} {b : Bool} (h : plankB s0 a1 a2 a3 a4 a5 = b) (w : World) (z0 : s0.size ≤ maxLen) :
    Calls Try.prog 22 #[plankV s0 a1 a2 a3 a4 a5] w fun e w' => e = .returned (.bool b) ∧ Below w.heap.size w w' := by
  rw [← h]; exact plankvalid_any _ _ _ _ _ _ w z0
set_option maxHeartbeats 1000000 in
theorem plankone_any (s0 : ByteArray) (a1 : Int) (a2 : Int) (a3 : Int) (a4 : Int) (a5 : Int) (N : Nat) (w : World) (z0 : s0.size ≤ maxLen) (hk : Blk w N 35 #[.string s0, .int .i64 a1, .int .i64 a2, .int .i64 a3, .int .i64 a4, .int .i64 a5]) :
    Calls Try.prog 24 #[.pointer (some ⟨N, 0, none⟩)] w fun e w' => e = .returned (.bool (plankB s0 a1 a2 a3 a4 a5)) ∧ w = w' := by
  have hc := hk.cell
  cases h0 : nameB s0
  · rw [show plankB s0 a1 a2 a3 a4 a5 = false by simp [plankB, h0]]
    go_enter Try.func24, Try.ntmps24
    go_wp2_with (first | (go_at_call 43; refine (l01Name_any _ _ (by assumption)).mono ?_; rintro e w' ⟨rfl, rfl⟩) | (go_at_call 44; refine (l03Size_any _ _).mono ?_; rintro e w' ⟨rfl, rfl⟩) | (go_at_call 28; refine (l00In_any _ _ _ _).mono ?_; rintro e w' ⟨rfl, rfl⟩))
    go_ret
    exact ⟨rfl, rfl⟩
  cases h1 : inB a1 1 2000
  · rw [show plankB s0 a1 a2 a3 a4 a5 = false by simp [plankB, h1]]
    go_enter Try.func24, Try.ntmps24
    go_wp2_with (first | (go_at_call 43; refine (l01Name_any _ _ (by assumption)).mono ?_; rintro e w' ⟨rfl, rfl⟩) | (go_at_call 44; refine (l03Size_any _ _).mono ?_; rintro e w' ⟨rfl, rfl⟩) | (go_at_call 28; refine (l00In_any _ _ _ _).mono ?_; rintro e w' ⟨rfl, rfl⟩))
    go_ret
    exact ⟨rfl, rfl⟩
  cases h2 : inB a2 1 2000
  · rw [show plankB s0 a1 a2 a3 a4 a5 = false by simp [plankB, h2]]
    go_enter Try.func24, Try.ntmps24
    go_wp2_with (first | (go_at_call 43; refine (l01Name_any _ _ (by assumption)).mono ?_; rintro e w' ⟨rfl, rfl⟩) | (go_at_call 44; refine (l03Size_any _ _).mono ?_; rintro e w' ⟨rfl, rfl⟩) | (go_at_call 28; refine (l00In_any _ _ _ _).mono ?_; rintro e w' ⟨rfl, rfl⟩))
    go_ret
    exact ⟨rfl, rfl⟩
  cases h3 : inB a3 1 2000
  · rw [show plankB s0 a1 a2 a3 a4 a5 = false by simp [plankB, h3]]
    go_enter Try.func24, Try.ntmps24
    go_wp2_with (first | (go_at_call 43; refine (l01Name_any _ _ (by assumption)).mono ?_; rintro e w' ⟨rfl, rfl⟩) | (go_at_call 44; refine (l03Size_any _ _).mono ?_; rintro e w' ⟨rfl, rfl⟩) | (go_at_call 28; refine (l00In_any _ _ _ _).mono ?_; rintro e w' ⟨rfl, rfl⟩))
    go_ret
    exact ⟨rfl, rfl⟩
  cases h4 : inB a4 1 100000
  · rw [show plankB s0 a1 a2 a3 a4 a5 = false by simp [plankB, h4]]
    go_enter Try.func24, Try.ntmps24
    go_wp2_with (first | (go_at_call 43; refine (l01Name_any _ _ (by assumption)).mono ?_; rintro e w' ⟨rfl, rfl⟩) | (go_at_call 44; refine (l03Size_any _ _).mono ?_; rintro e w' ⟨rfl, rfl⟩) | (go_at_call 28; refine (l00In_any _ _ _ _).mono ?_; rintro e w' ⟨rfl, rfl⟩))
    go_ret
    exact ⟨rfl, rfl⟩
  cases h5 : inB a5 1 500
  · rw [show plankB s0 a1 a2 a3 a4 a5 = false by simp [plankB, h5]]
    go_enter Try.func24, Try.ntmps24
    go_wp2_with (first | (go_at_call 43; refine (l01Name_any _ _ (by assumption)).mono ?_; rintro e w' ⟨rfl, rfl⟩) | (go_at_call 44; refine (l03Size_any _ _).mono ?_; rintro e w' ⟨rfl, rfl⟩) | (go_at_call 28; refine (l00In_any _ _ _ _).mono ?_; rintro e w' ⟨rfl, rfl⟩))
    go_ret
    exact ⟨rfl, rfl⟩
  rw [show plankB s0 a1 a2 a3 a4 a5 = true by simp [plankB, h0, h1, h2, h3, h4, h5]]
  go_enter Try.func24, Try.ntmps24
  go_wp2_with (first | (go_at_call 43; refine (l01Name_any _ _ (by assumption)).mono ?_; rintro e w' ⟨rfl, rfl⟩) | (go_at_call 44; refine (l03Size_any _ _).mono ?_; rintro e w' ⟨rfl, rfl⟩) | (go_at_call 28; refine (l00In_any _ _ _ _).mono ?_; rintro e w' ⟨rfl, rfl⟩))
  go_ret
  exact ⟨rfl, rfl⟩
theorem plankone_is {s0 : ByteArray} {a1 : Int} {a2 : Int} {a3 : Int} {a4 : Int} {a5 : Int} {N : Nat} {b : Bool} (h : plankB s0 a1 a2 a3 a4 a5 = b) (w : World) (z0 : s0.size ≤ maxLen) (hk : Blk w N 35 #[.string s0, .int .i64 a1, .int .i64 a2, .int .i64 a3, .int .i64 a4, .int .i64 a5]) :
    Calls Try.prog 24 #[.pointer (some ⟨N, 0, none⟩)] w fun e w' => e = .returned (.bool b) ∧ w = w' := by
  rw [← h]; exact plankone_any _ _ _ _ _ _ N w z0 hk
structure PlankD where
  s0 : ByteArray
  a1 : Int
  a2 : Int
  a3 : Int
  a4 : Int
  a5 : Int
def plankF (x : PlankD) : List Value := [.string x.s0, .int .i64 x.a1, .int .i64 x.a2, .int .i64 x.a3, .int .i64 x.a4, .int .i64 x.a5]
theorem plankF_len (x : PlankD) : (plankF x).length = 6 := rfl
def plankZ (ds : List PlankD) : Prop := ∀ x ∈ ds, x.s0.size ≤ maxLen
theorem eqPlank_refl (x : PlankD) (w : World) :
    Calls Try.prog 33 #[plankV x.s0 x.a1 x.a2 x.a3 x.a4 x.a5, plankV x.s0 x.a1 x.a2 x.a3 x.a4 x.a5] w fun e w' => e = .returned (.bool true) ∧ Below w.heap.size w w' := by
  go_enter Try.func33, Try.ntmps33
  go_wp2
  go_ret
  exact ⟨rfl, ((Below.refl _ _).alloc (Nat.le_refl _) _).alloc (by simp) _⟩
set_option maxHeartbeats 1000000 in
theorem szPlankS_any (A : Option Addr) (c n : Nat) (ds : List PlankD) (lf : Int) (w : World) (hn : ds.length = n) (h : Rd w w.heap.size 6 A n (ds.flatMap plankF)) (hz : plankZ ds) (l0 : 0 ≤ lf) (l1 : lf ≤ 1048576) (hm : n ≤ maxLen) :
    Calls Try.prog 10 #[.slice A n c, .int .i64 lf] w (SzE n lf w) := by
  unfold maxLen at hm
  have HN := Lib.hid hn
  clear hn
  by_cases h0 : lf < n
  · go_enter Try.func10, Try.ntmps10
    go_wp2
    go_ret
    exact ⟨-1, .inl rfl, rfl, Below.refl _ _⟩
  go_enter Try.func10, Try.ntmps10
  go_wp2
  have H := Lib.hid h
  clear h
  go_loopw [1, 5] (fun l i wr => ∃ (k : Nat) (r : Int), k ≤ n ∧ 0 ≤ r ∧ r + n ≤ lf ∧ i = .int .i64 k ∧ l = .int .i64 r ∧ Hid (Below w.heap.size w wr)) (fun _ i _ => n - (intOf i).toNat)
  case atStart => exact ⟨0, lf - n, by omega, by omega, by omega, rfl, rfl, Lib.hid (Below.refl _ _)⟩
  case round =>
    obtain ⟨k, r, hk, r0, r1, rfl, rfl, hb⟩ := hrel
    by_cases hlt : k < n
    · obtain ⟨x, hx, hxm⟩ := getD_of (l := ds) (i := k) (by rw [HN.out]; exact hlt)
      have zx := hz x hxm
      obtain ⟨b, o, rfl, hbB, hc⟩ := (H.out.below hb.out).at_ plankF_len (by omega)
      have c0 : wr.cell? ⟨b, o + k * 6, none⟩ = some (.string x.s0) := hc k x 0 _ hx rfl
      have c1 : wr.cell? ⟨b, o + k * 6 + 1, none⟩ = some (.int .i64 x.a1) := hc k x 1 _ hx rfl
      have c2 : wr.cell? ⟨b, o + k * 6 + 2, none⟩ = some (.int .i64 x.a2) := hc k x 2 _ hx rfl
      have c3 : wr.cell? ⟨b, o + k * 6 + 3, none⟩ = some (.int .i64 x.a3) := hc k x 3 _ hx rfl
      have c4 : wr.cell? ⟨b, o + k * 6 + 4, none⟩ = some (.int .i64 x.a4) := hc k x 4 _ hx rfl
      have c5 : wr.cell? ⟨b, o + k * 6 + 5, none⟩ = some (.int .i64 x.a5) := hc k x 5 _ hx rfl
      clear hc hx hxm
      by_cases hs : (x.s0.size : Int) ≤ r
      · go_wp2_with fail
        refine (szPlank_ok x.s0 x.a1 x.a2 x.a3 x.a4 x.a5 _ _ r0 (by omega) zx hs).mono ?_
        rintro e w1 ⟨rfl, hb1⟩
        have b1 := Lib.hid (below_more hb.out hb1 (Nat.le_refl _))
        clear hb1 c0 c1 c2 c3 c4 c5 zx
        go_wp2
        go_roundw
        case rel => exact ⟨k + 1, r - (x.s0.size : Int), by omega, by omega, by omega, by go_num, rfl, b1⟩
        case measure => simp [intOf]; omega
      · go_wp2_with fail
        refine (szPlank_no x.s0 x.a1 x.a2 x.a3 x.a4 x.a5 _ _ r0 (by omega) zx (by omega)).mono ?_
        rintro e w1 ⟨rfl, hb1⟩
        have b1 := Lib.hid (below_more hb.out hb1 (Nat.le_refl _))
        clear hb1 c0 c1 c2 c3 c4 c5 zx
        go_wp2
        go_ret
        exact ⟨-1, .inl rfl, rfl, b1.out⟩
    · go_wp2
      go_ret
      exact ⟨r, .inr ⟨r0, r1⟩, rfl, hb.out⟩
theorem infoPlank : (Try.prog.info? 35).map (fun i => (i.zero, i.size, i.bytes)) = some (some (.agg #[.string ByteArray.empty, .int .i64 0, .int .i64 0, .int .i64 0, .int .i64 0, .int .i64 0]), 6, 56) := by kernel_rfl
theorem fillPlank {w : World} {g n k : Nat} {t : TypeId} {ds : List PlankD} {x : PlankD} (h : Fill w g t (n * 6) (k * 6) (ds.flatMap plankF)) (hx : ds[k]? = some x) (hk : k < n) :
    Fill ((((((w.setCell ⟨g, k * 6, none⟩ (.string x.s0)).setCell ⟨g, k * 6 + 1, none⟩ (.int .i64 x.a1)).setCell ⟨g, k * 6 + 2, none⟩ (.int .i64 x.a2)).setCell ⟨g, k * 6 + 3, none⟩ (.int .i64 x.a3)).setCell ⟨g, k * 6 + 4, none⟩ (.int .i64 x.a4)).setCell ⟨g, k * 6 + 5, none⟩ (.int .i64 x.a5)) g t (n * 6) ((k + 1) * 6) (ds.flatMap plankF) := by
  have h0 := h.step (flat_get plankF_len ds k 0 x _ hx rfl) (by omega)
  have h1 := h0.step (flat_get plankF_len ds k 1 x _ hx rfl) (by omega)
  have h2 := h1.step (flat_get plankF_len ds k 2 x _ hx rfl) (by omega)
  have h3 := h2.step (flat_get plankF_len ds k 3 x _ hx rfl) (by omega)
  have h4 := h3.step (flat_get plankF_len ds k 4 x _ hx rfl) (by omega)
  have h5 := h4.step (flat_get plankF_len ds k 5 x _ hx rfl) (by omega)
  rw [show (k + 1) * 6 = k * 6 + 6 by omega]
  exact h5
set_option maxHeartbeats 1000000 in
theorem toPlankS_any (A : Option Addr) (c n : Nat) (ds : List PlankD) (w : World) (hn : ds.length = n) (h : Rd w w.heap.size 6 A n (ds.flatMap plankF)) (hm : n ≤ 1048576) :
    Calls Try.prog 12 #[.slice A n c] w fun e w' => e = .returned (.slice (some ⟨w.heap.size, 0, none⟩) n n) ∧ Blk w' w.heap.size 35 (ds.flatMap plankF).toArray ∧ Below w.heap.size w w' := by
  obtain ⟨cs, hcs, _, hmk⟩ := make_run (P := Try.prog) Try.underlying24 infoPlank n (by omega) (by unfold maxLen; omega)
  have HN := Lib.hid hn
  have H := Lib.hid h
  have F0 := Lib.hid (Fill.start (xs := ds.flatMap plankF) (Blk.new w 35 cs) hcs)
  have b0 := Lib.hid ((Below.refl w.heap.size w).alloc (Nat.le_refl _) (.cells cs 35))
  clear hn h hcs
  go_enter Try.func12, Try.ntmps12
  go_wp2
  clear hmk
  generalize w.alloc (.cells cs 35) = w1 at F0 b0 ⊢
  go_loopw [4] (fun i wr => ∃ k : Nat, k ≤ n ∧ i = .int .i64 k ∧ Hid (Fill wr w.heap.size 35 (n * 6) (k * 6) (ds.flatMap plankF)) ∧ Hid (Below w.heap.size w wr)) (fun i _ => n - (intOf i).toNat)
  case atStart => exact ⟨0, Nat.zero_le _, rfl, by rw [Nat.zero_mul]; exact F0, b0⟩
  case round =>
    obtain ⟨k, hk, rfl, F, hb⟩ := hrel
    by_cases hlt : k < n
    · obtain ⟨x, hx, hxm⟩ := getD_of (l := ds) (i := k) (by rw [HN.out]; exact hlt)
      have HX := Lib.hid hx
      have hsz := F.out.lt
      obtain ⟨b, o, rfl, hbB, hc⟩ := (H.out.below hb.out).at_ plankF_len (by omega)
      have c0 : wr.cell? ⟨b, o + k * 6, none⟩ = some (.string x.s0) := hc k x 0 _ hx rfl
      have c1 : wr.cell? ⟨b, o + k * 6 + 1, none⟩ = some (.int .i64 x.a1) := hc k x 1 _ hx rfl
      have c2 : wr.cell? ⟨b, o + k * 6 + 2, none⟩ = some (.int .i64 x.a2) := hc k x 2 _ hx rfl
      have c3 : wr.cell? ⟨b, o + k * 6 + 3, none⟩ = some (.int .i64 x.a3) := hc k x 3 _ hx rfl
      have c4 : wr.cell? ⟨b, o + k * 6 + 4, none⟩ = some (.int .i64 x.a4) := hc k x 4 _ hx rfl
      have c5 : wr.cell? ⟨b, o + k * 6 + 5, none⟩ = some (.int .i64 x.a5) := hc k x 5 _ hx rfl
      clear hc hx hxm
      go_wp2_with fail
      refine (toPlank_any x.s0 x.a1 x.a2 x.a3 x.a4 x.a5 _).mono ?_
      rintro e w3 ⟨rfl, hb3⟩
      have F3 := Lib.hid (F.out.below hb3 hsz)
      have b3 := Lib.hid (below_more hb.out hb3 (Nat.le_refl _))
      clear hb3 c0 c1 c2 c3 c4 c5 F hb
      obtain ⟨⟨v0, m0⟩, f0⟩ := F3.out.room (j := k * 6) (by omega)
      obtain ⟨⟨v1, m1⟩, f1⟩ := F3.out.room (j := k * 6 + 1) (by omega)
      obtain ⟨⟨v2, m2⟩, f2⟩ := F3.out.room (j := k * 6 + 2) (by omega)
      obtain ⟨⟨v3, m3⟩, f3⟩ := F3.out.room (j := k * 6 + 3) (by omega)
      obtain ⟨⟨v4, m4⟩, f4⟩ := F3.out.room (j := k * 6 + 4) (by omega)
      obtain ⟨⟨v5, m5⟩, f5⟩ := F3.out.room (j := k * 6 + 5) (by omega)
      go_wp2
      have F4 := Lib.hid (fillPlank F3.out HX.out hlt)
      have b4 := Lib.hid (((((((b3.out.setCell (p := ⟨w.heap.size, k * 6, none⟩) (Nat.le_refl _) (.string x.s0)).setCell (p := ⟨w.heap.size, k * 6 + 1, none⟩) (Nat.le_refl _) (.int .i64 x.a1)).setCell (p := ⟨w.heap.size, k * 6 + 2, none⟩) (Nat.le_refl _) (.int .i64 x.a2)).setCell (p := ⟨w.heap.size, k * 6 + 3, none⟩) (Nat.le_refl _) (.int .i64 x.a3)).setCell (p := ⟨w.heap.size, k * 6 + 4, none⟩) (Nat.le_refl _) (.int .i64 x.a4)).setCell (p := ⟨w.heap.size, k * 6 + 5, none⟩) (Nat.le_refl _) (.int .i64 x.a5)))
      go_roundw
      case rel => exact ⟨k + 1, by omega, by go_num, F4, b4⟩
      case measure => simp [intOf]; omega
    · obtain rfl : k = n := by omega
      go_wp2
      go_ret
      exact ⟨rfl, F.out.done (by rw [flat_len plankF_len, HN.out]), hb.out⟩
set_option maxHeartbeats 1000000 in
theorem eqPlankS_refl (A A' : Option Addr) (c c' n : Nat) (ds : List PlankD) (w : World) (hn : ds.length = n) (h : Rd w w.heap.size 6 A n (ds.flatMap plankF)) (h' : Rd w w.heap.size 6 A' n (ds.flatMap plankF)) (hm : n ≤ 1048576) :
    Calls Try.prog 14 #[.slice A n c, .slice A' n c'] w fun e w' => e = .returned (.bool true) ∧ Below w.heap.size w w' := by
  have HN := Lib.hid hn
  have H := Lib.hid h
  have H' := Lib.hid h'
  clear hn h h'
  go_enter Try.func14, Try.ntmps14
  go_wp2
  go_loopw [5] (fun i wr => ∃ k : Nat, k ≤ n ∧ i = .int .i64 k ∧ Hid (Below w.heap.size w wr)) (fun i _ => n - (intOf i).toNat)
  case atStart => exact ⟨0, Nat.zero_le _, rfl, Lib.hid (Below.refl _ _)⟩
  case round =>
    obtain ⟨k, hk, rfl, hb⟩ := hrel
    by_cases hlt : k < n
    · obtain ⟨x, hx, hxm⟩ := getD_of (l := ds) (i := k) (by rw [HN.out]; exact hlt)
      obtain ⟨b, o, rfl, hbB, hc⟩ := (H.out.below hb.out).at_ plankF_len (by omega)
      obtain ⟨b', o', rfl, hbB', hc'⟩ := (H'.out.below hb.out).at_ plankF_len (by omega)
      have hsz := hb.out.size
      have c0 : ∀ u : Bel wr.heap.size wr, u.val.cell? ⟨b, o + k * 6, none⟩ = some (.string x.s0) := bel_at (hc k x 0 _ hx rfl) (by omega)
      have d0 : ∀ u : Bel wr.heap.size wr, u.val.cell? ⟨b', o' + k * 6, none⟩ = some (.string x.s0) := bel_at (hc' k x 0 _ hx rfl) (by omega)
      have c1 : ∀ u : Bel wr.heap.size wr, u.val.cell? ⟨b, o + k * 6 + 1, none⟩ = some (.int .i64 x.a1) := bel_at (hc k x 1 _ hx rfl) (by omega)
      have d1 : ∀ u : Bel wr.heap.size wr, u.val.cell? ⟨b', o' + k * 6 + 1, none⟩ = some (.int .i64 x.a1) := bel_at (hc' k x 1 _ hx rfl) (by omega)
      have c2 : ∀ u : Bel wr.heap.size wr, u.val.cell? ⟨b, o + k * 6 + 2, none⟩ = some (.int .i64 x.a2) := bel_at (hc k x 2 _ hx rfl) (by omega)
      have d2 : ∀ u : Bel wr.heap.size wr, u.val.cell? ⟨b', o' + k * 6 + 2, none⟩ = some (.int .i64 x.a2) := bel_at (hc' k x 2 _ hx rfl) (by omega)
      have c3 : ∀ u : Bel wr.heap.size wr, u.val.cell? ⟨b, o + k * 6 + 3, none⟩ = some (.int .i64 x.a3) := bel_at (hc k x 3 _ hx rfl) (by omega)
      have d3 : ∀ u : Bel wr.heap.size wr, u.val.cell? ⟨b', o' + k * 6 + 3, none⟩ = some (.int .i64 x.a3) := bel_at (hc' k x 3 _ hx rfl) (by omega)
      have c4 : ∀ u : Bel wr.heap.size wr, u.val.cell? ⟨b, o + k * 6 + 4, none⟩ = some (.int .i64 x.a4) := bel_at (hc k x 4 _ hx rfl) (by omega)
      have d4 : ∀ u : Bel wr.heap.size wr, u.val.cell? ⟨b', o' + k * 6 + 4, none⟩ = some (.int .i64 x.a4) := bel_at (hc' k x 4 _ hx rfl) (by omega)
      have c5 : ∀ u : Bel wr.heap.size wr, u.val.cell? ⟨b, o + k * 6 + 5, none⟩ = some (.int .i64 x.a5) := bel_at (hc k x 5 _ hx rfl) (by omega)
      have d5 : ∀ u : Bel wr.heap.size wr, u.val.cell? ⟨b', o' + k * 6 + 5, none⟩ = some (.int .i64 x.a5) := bel_at (hc' k x 5 _ hx rfl) (by omega)
      clear hc hc' hx hxm
      have hk0 : (0 : Int) ≤ k := by omega
      have hki : (k : Int) < n := by omega
      have tn : (k : Int).toNat = k := by simp
      go_wp2_with fail
      (refine wp_region_bel wr.heap.size wr (Below.refl _ _) (by kernel_rfl) (by kernel_rfl) ?_; (repeat (go_big_quiet_step ((first | (go_at_call 33; exact bel_of (Nat.le_refl _) (eqPlank_refl x _)))))); refine wpQuiet_nil ?_; rintro w1 ⟨⟨_, hb1⟩, rfl⟩)
      clear c0 d0 c1 d1 c2 d2 c3 d3 c4 d4 c5 d5 tn
      have b1 := Lib.hid (below_more hb.out hb1 (Nat.le_refl _))
      go_wp2
      go_roundw
      case rel => exact ⟨k + 1, by omega, by go_num, b1⟩
      case measure => simp [intOf]; omega
    · go_wp2
      go_ret
      exact ⟨rfl, hb.out⟩
def plankP (x : PlankD) : Bool := plankB x.s0 x.a1 x.a2 x.a3 x.a4 x.a5
def planksB (ds : List PlankD) : Bool := ordB plankP (·.s0) ds && decide (ds.length ≤ 16)
set_option maxHeartbeats 1000000 in
theorem plankoneat_any (s0 : ByteArray) (a1 : Int) (a2 : Int) (a3 : Int) (a4 : Int) (a5 : Int) (b o : Nat) (w : World) (z0 : s0.size ≤ maxLen) (c0 : w.cell? ⟨b, o, none⟩ = some (.string s0)) (c1 : w.cell? ⟨b, o + 1, none⟩ = some (.int .i64 a1)) (c2 : w.cell? ⟨b, o + 2, none⟩ = some (.int .i64 a2)) (c3 : w.cell? ⟨b, o + 3, none⟩ = some (.int .i64 a3)) (c4 : w.cell? ⟨b, o + 4, none⟩ = some (.int .i64 a4)) (c5 : w.cell? ⟨b, o + 5, none⟩ = some (.int .i64 a5)) :
    Calls Try.prog 24 #[.pointer (some ⟨b, o, none⟩)] w fun e w' => e = .returned (.bool (plankB s0 a1 a2 a3 a4 a5)) ∧ w = w' := by
  cases h0 : nameB s0
  · rw [show plankB s0 a1 a2 a3 a4 a5 = false by simp [plankB, h0]]
    go_enter Try.func24, Try.ntmps24
    go_wp2_with (first | (go_at_call 43; refine (l01Name_any _ _ (by assumption)).mono ?_; rintro e w' ⟨rfl, rfl⟩) | (go_at_call 44; refine (l03Size_any _ _).mono ?_; rintro e w' ⟨rfl, rfl⟩) | (go_at_call 28; refine (l00In_any _ _ _ _).mono ?_; rintro e w' ⟨rfl, rfl⟩))
    go_ret
    exact ⟨rfl, rfl⟩
  cases h1 : inB a1 1 2000
  · rw [show plankB s0 a1 a2 a3 a4 a5 = false by simp [plankB, h1]]
    go_enter Try.func24, Try.ntmps24
    go_wp2_with (first | (go_at_call 43; refine (l01Name_any _ _ (by assumption)).mono ?_; rintro e w' ⟨rfl, rfl⟩) | (go_at_call 44; refine (l03Size_any _ _).mono ?_; rintro e w' ⟨rfl, rfl⟩) | (go_at_call 28; refine (l00In_any _ _ _ _).mono ?_; rintro e w' ⟨rfl, rfl⟩))
    go_ret
    exact ⟨rfl, rfl⟩
  cases h2 : inB a2 1 2000
  · rw [show plankB s0 a1 a2 a3 a4 a5 = false by simp [plankB, h2]]
    go_enter Try.func24, Try.ntmps24
    go_wp2_with (first | (go_at_call 43; refine (l01Name_any _ _ (by assumption)).mono ?_; rintro e w' ⟨rfl, rfl⟩) | (go_at_call 44; refine (l03Size_any _ _).mono ?_; rintro e w' ⟨rfl, rfl⟩) | (go_at_call 28; refine (l00In_any _ _ _ _).mono ?_; rintro e w' ⟨rfl, rfl⟩))
    go_ret
    exact ⟨rfl, rfl⟩
  cases h3 : inB a3 1 2000
  · rw [show plankB s0 a1 a2 a3 a4 a5 = false by simp [plankB, h3]]
    go_enter Try.func24, Try.ntmps24
    go_wp2_with (first | (go_at_call 43; refine (l01Name_any _ _ (by assumption)).mono ?_; rintro e w' ⟨rfl, rfl⟩) | (go_at_call 44; refine (l03Size_any _ _).mono ?_; rintro e w' ⟨rfl, rfl⟩) | (go_at_call 28; refine (l00In_any _ _ _ _).mono ?_; rintro e w' ⟨rfl, rfl⟩))
    go_ret
    exact ⟨rfl, rfl⟩
  cases h4 : inB a4 1 100000
  · rw [show plankB s0 a1 a2 a3 a4 a5 = false by simp [plankB, h4]]
    go_enter Try.func24, Try.ntmps24
    go_wp2_with (first | (go_at_call 43; refine (l01Name_any _ _ (by assumption)).mono ?_; rintro e w' ⟨rfl, rfl⟩) | (go_at_call 44; refine (l03Size_any _ _).mono ?_; rintro e w' ⟨rfl, rfl⟩) | (go_at_call 28; refine (l00In_any _ _ _ _).mono ?_; rintro e w' ⟨rfl, rfl⟩))
    go_ret
    exact ⟨rfl, rfl⟩
  cases h5 : inB a5 1 500
  · rw [show plankB s0 a1 a2 a3 a4 a5 = false by simp [plankB, h5]]
    go_enter Try.func24, Try.ntmps24
    go_wp2_with (first | (go_at_call 43; refine (l01Name_any _ _ (by assumption)).mono ?_; rintro e w' ⟨rfl, rfl⟩) | (go_at_call 44; refine (l03Size_any _ _).mono ?_; rintro e w' ⟨rfl, rfl⟩) | (go_at_call 28; refine (l00In_any _ _ _ _).mono ?_; rintro e w' ⟨rfl, rfl⟩))
    go_ret
    exact ⟨rfl, rfl⟩
  rw [show plankB s0 a1 a2 a3 a4 a5 = true by simp [plankB, h0, h1, h2, h3, h4, h5]]
  go_enter Try.func24, Try.ntmps24
  go_wp2_with (first | (go_at_call 43; refine (l01Name_any _ _ (by assumption)).mono ?_; rintro e w' ⟨rfl, rfl⟩) | (go_at_call 44; refine (l03Size_any _ _).mono ?_; rintro e w' ⟨rfl, rfl⟩) | (go_at_call 28; refine (l00In_any _ _ _ _).mono ?_; rintro e w' ⟨rfl, rfl⟩))
  go_ret
  exact ⟨rfl, rfl⟩
theorem plankoneat_is {s0 : ByteArray} {a1 : Int} {a2 : Int} {a3 : Int} {a4 : Int} {a5 : Int} {b o : Nat} {v : Bool} (h : plankB s0 a1 a2 a3 a4 a5 = v) (w : World) (z0 : s0.size ≤ maxLen) (c0 : w.cell? ⟨b, o, none⟩ = some (.string s0)) (c1 : w.cell? ⟨b, o + 1, none⟩ = some (.int .i64 a1)) (c2 : w.cell? ⟨b, o + 2, none⟩ = some (.int .i64 a2)) (c3 : w.cell? ⟨b, o + 3, none⟩ = some (.int .i64 a3)) (c4 : w.cell? ⟨b, o + 4, none⟩ = some (.int .i64 a4)) (c5 : w.cell? ⟨b, o + 5, none⟩ = some (.int .i64 a5)) :
    Calls Try.prog 24 #[.pointer (some ⟨b, o, none⟩)] w fun e w' => e = .returned (.bool v) ∧ w = w' := by
  rw [← h]; exact plankoneat_any _ _ _ _ _ _ b o w z0 c0 c1 c2 c3 c4 c5
set_option maxHeartbeats 2000000 in
theorem ValidPlanks_i (A : Option Addr) (c n : Nat) (ds : List PlankD) (w : World) (hn : ds.length = n) (h : Rd w w.heap.size 6 A n (ds.flatMap plankF)) (hz : plankZ ds) (hm : n ≤ 1048576) :
    Calls Try.prog 8 #[.slice A n c] w fun e w' => e = .returned (.bool (planksB ds)) ∧ Below w.heap.size w w' := by
  have HN := Lib.hid hn
  have H := Lib.hid h
  clear hn h
  go_enter Try.func8, Try.ntmps8
  go_wp2
  go_loopw [7] (fun i wr => ∃ k : Nat, k ≤ n ∧ i = .int .i64 k ∧ Hid (ordTo plankP (·.s0) ds k = true) ∧ Hid (Below w.heap.size w wr)) (fun i _ => n - (intOf i).toNat)
  case atStart => exact ⟨0, Nat.zero_le _, rfl, Lib.hid rfl, Lib.hid (Below.refl _ _)⟩
  case round =>
    obtain ⟨k, hk, rfl, hf, hb⟩ := hrel
    by_cases hlt : k < n
    · obtain ⟨x, hx, hxm⟩ := getD_of (l := ds) (i := k) (by rw [HN.out]; exact hlt)
      have zx := hz x hxm
      have HX := Lib.hid hx
      obtain ⟨b, o, rfl, hbB, hc⟩ := (H.out.below hb.out).at_ plankF_len (by omega)
      have HC := Lib.hid hc
      have hsz := hb.out.size
      have c0 : wr.cell? ⟨b, o + k * 6, none⟩ = some (.string x.s0) := hc k x 0 _ hx rfl
      have c1 : wr.cell? ⟨b, o + k * 6 + 1, none⟩ = some (.int .i64 x.a1) := hc k x 1 _ hx rfl
      have c2 : wr.cell? ⟨b, o + k * 6 + 2, none⟩ = some (.int .i64 x.a2) := hc k x 2 _ hx rfl
      have c3 : wr.cell? ⟨b, o + k * 6 + 3, none⟩ = some (.int .i64 x.a3) := hc k x 3 _ hx rfl
      have c4 : wr.cell? ⟨b, o + k * 6 + 4, none⟩ = some (.int .i64 x.a4) := hc k x 4 _ hx rfl
      have c5 : wr.cell? ⟨b, o + k * 6 + 5, none⟩ = some (.int .i64 x.a5) := hc k x 5 _ hx rfl
      have hk1 := Lib.hid (Blk.new wr 35 #[.string x.s0, .int .i64 x.a1, .int .i64 x.a2, .int .i64 x.a3, .int .i64 x.a4, .int .i64 x.a5])
      have hb1 := Lib.hid ((Below.refl wr.heap.size wr).alloc (Nat.le_refl _) (.cells #[.string x.s0, .int .i64 x.a1, .int .i64 x.a2, .int .i64 x.a3, .int .i64 x.a4, .int .i64 x.a5] 35))
      clear hc hx hxm
      cases hp : plankP x
      · have hp' : plankB x.s0 x.a1 x.a2 x.a3 x.a4 x.a5 = false := hp
        have HF := Lib.hid (ordB_bad (p := plankP) (key := (·.s0)) (k := k) (by rw [HN.out]; exact hlt) (ordAt_no HX.out hp))
        clear hp
        go_wp2_with fail
        clear c0 c1 c2 c3 c4 c5
        generalize wr.alloc (.cells #[.string x.s0, .int .i64 x.a1, .int .i64 x.a2, .int .i64 x.a3, .int .i64 x.a4, .int .i64 x.a5] 35) = W at hk1 hb1 ⊢
        have hc := bel_cell hk1.out hk1.out.lt
        (refine wp_region_bel W.heap.size W (Below.refl _ _) (by kernel_rfl) (by kernel_rfl) ?_; (repeat (go_big_quiet_step ((first | (go_at_call 22; exact bel_of (Nat.le_refl _) (plankvalid_is hp' _ zx)))))); refine wpQuiet_nil ?_; rintro w1 ⟨⟨_, hb2⟩, rfl⟩)
        clear hc
        have b2 := Lib.hid (below_more hb.out (below_more hb1.out hb2 (Nat.le_refl _)) (Nat.le_refl _))
        go_wp2
        go_ret
        exact ⟨ret_bool (by rw [planksB, HF.out]; rfl), b2.out⟩
      · have hp' : plankB x.s0 x.a1 x.a2 x.a3 x.a4 x.a5 = true := hp
        by_cases h0 : k = 0
        · have HF := Lib.hid (ordTo_next hf.out (h0 ▸ ordAt_zero (h0 ▸ HX.out) hp))
          have dk : decide ((0 : Int) < k) = false := by simp; omega
          have dk' : decide (0 < k) = false := by simp; omega
          clear hp h0
          go_wp2_with fail
          clear c0 c1 c2 c3 c4 c5
          generalize wr.alloc (.cells #[.string x.s0, .int .i64 x.a1, .int .i64 x.a2, .int .i64 x.a3, .int .i64 x.a4, .int .i64 x.a5] 35) = W at hk1 hb1 ⊢
          have hc := bel_cell hk1.out hk1.out.lt
          (refine wp_region_bel W.heap.size W (Below.refl _ _) (by kernel_rfl) (by kernel_rfl) ?_; (repeat (go_big_quiet_step ((first | (go_at_call 22; exact bel_of (Nat.le_refl _) (plankvalid_is hp' _ zx)))))); refine wpQuiet_nil ?_; rintro w1 ⟨⟨_, hb2⟩, rfl⟩)
          clear hc
          have b2 := Lib.hid (below_more hb.out (below_more hb1.out hb2 (Nat.le_refl _)) (Nat.le_refl _))
          go_wp2
          go_roundw
          case rel => exact ⟨k + 1, by omega, by go_num, HF, b2⟩
          case measure => simp [intOf]; omega
        · obtain ⟨y, hy, hym⟩ := getD_of (l := ds) (i := k - 1) (by rw [HN.out]; omega)
          have HA := Lib.hid (ordAt_is (key := (·.s0)) (by omega) HX.out hy hp)
          have d0 : wr.cell? ⟨b, o + (k - 1) * 6, none⟩ = some (.string y.s0) := HC.out (k - 1) y 0 _ hy rfl
          have D0 := Lib.hid (((Below.refl wr.heap.size wr).alloc (Nat.le_refl _) (.cells #[.string x.s0, .int .i64 x.a1, .int .i64 x.a2, .int .i64 x.a3, .int .i64 x.a4, .int .i64 x.a5] 35) |>.cell (p := ⟨b, o + (k - 1) * 6, none⟩) (by show b < wr.heap.size; omega)).trans d0)
          have dk : decide ((0 : Int) < k) = true := by simp; omega
          have dk' : decide (0 < k) = true := by simp; omega
          clear hp hy hym d0
          cases hl : lessB y.s0 x.s0
          · have hl' : Op.bytesLess y.s0.toList x.s0.toList = false := hl
            have HF := Lib.hid (ordB_bad (p := plankP) (key := (·.s0)) (k := k) (by rw [HN.out]; exact hlt) (HA.out.trans hl))
            clear hl
            go_wp2_with fail
            clear c0 c1 c2 c3 c4 c5
            generalize wr.alloc (.cells #[.string x.s0, .int .i64 x.a1, .int .i64 x.a2, .int .i64 x.a3, .int .i64 x.a4, .int .i64 x.a5] 35) = W at hk1 hb1 D0 ⊢
            have hc := bel_cell hk1.out hk1.out.lt
            have hd : ∀ u : Bel W.heap.size W, u.val.cell? ⟨b, o + (k - 1) * 6, none⟩ = some (.string y.s0) := bel_at D0.out (by have := hb1.out.size; omega)
            have e1 : IntKind.i64.wrap ((k : Int) - 1) = (k : Int) - 1 := IntWalk.i64_in _ (by omega)
            have e2 : ((k : Int) - 1).toNat = k - 1 := by omega
            have e3 : 1 ≤ (k : Int) := by omega
            have e4 : (k : Int) - 1 < n := by omega
            (refine wp_region_bel W.heap.size W (Below.refl _ _) (by kernel_rfl) (by kernel_rfl) ?_; (repeat (go_big_quiet_step ((first | (go_at_call 22; exact bel_of (Nat.le_refl _) (plankvalid_is hp' _ zx)))))); refine wpQuiet_nil ?_; rintro w1 ⟨⟨_, hb2⟩, rfl⟩)
            clear hc hd e1 e2 e3 e4
            have b2 := Lib.hid (below_more hb.out (below_more hb1.out hb2 (Nat.le_refl _)) (Nat.le_refl _))
            go_wp2
            go_ret
            exact ⟨ret_bool (by rw [planksB, HF.out]; rfl), b2.out⟩
          · have hl' : Op.bytesLess y.s0.toList x.s0.toList = true := hl
            have HF := Lib.hid (ordTo_next hf.out (HA.out.trans hl))
            clear hl
            go_wp2_with fail
            clear c0 c1 c2 c3 c4 c5
            generalize wr.alloc (.cells #[.string x.s0, .int .i64 x.a1, .int .i64 x.a2, .int .i64 x.a3, .int .i64 x.a4, .int .i64 x.a5] 35) = W at hk1 hb1 D0 ⊢
            have hc := bel_cell hk1.out hk1.out.lt
            have hd : ∀ u : Bel W.heap.size W, u.val.cell? ⟨b, o + (k - 1) * 6, none⟩ = some (.string y.s0) := bel_at D0.out (by have := hb1.out.size; omega)
            have e1 : IntKind.i64.wrap ((k : Int) - 1) = (k : Int) - 1 := IntWalk.i64_in _ (by omega)
            have e2 : ((k : Int) - 1).toNat = k - 1 := by omega
            have e3 : 1 ≤ (k : Int) := by omega
            have e4 : (k : Int) - 1 < n := by omega
            (refine wp_region_bel W.heap.size W (Below.refl _ _) (by kernel_rfl) (by kernel_rfl) ?_; (repeat (go_big_quiet_step ((first | (go_at_call 22; exact bel_of (Nat.le_refl _) (plankvalid_is hp' _ zx)))))); refine wpQuiet_nil ?_; rintro w1 ⟨⟨_, hb2⟩, rfl⟩)
            clear hc hd e1 e2 e3 e4
            have b2 := Lib.hid (below_more hb.out (below_more hb1.out hb2 (Nat.le_refl _)) (Nat.le_refl _))
            go_wp2
            go_roundw
            case rel => exact ⟨k + 1, by omega, by go_num, HF, b2⟩
            case measure => simp [intOf]; omega
    · obtain rfl : k = n := by omega
      have HF : Hid (ordB plankP (·.s0) ds = true) := Lib.hid (by unfold ordB; rw [HN.out]; exact hf.out)
      go_wp2_with ((go_at_call 23; refine (few_any _ _ _ (by omega)).mono ?_; rintro e w' ⟨rfl, rfl⟩))
      go_ret
      exact ⟨ret_bool (by rw [planksB, HF.out, HN.out]; simp; omega), hb.out⟩
set_option maxHeartbeats 2000000 in
theorem l03Ok_s (A : Option Addr) (c n : Nat) (ds : List PlankD) (w : World) (hn : ds.length = n) (h : Rd w w.heap.size 6 A n (ds.flatMap plankF)) (hz : plankZ ds) (hm : n ≤ 1048576) :
    Calls Try.prog 27 #[.slice A n c] w fun e w' => e = .returned (.bool (planksB ds)) ∧ Below w.heap.size w w' := by
  have HN := Lib.hid hn
  have H := Lib.hid h
  clear hn h
  go_enter Try.func27, Try.ntmps27
  go_wp2
  go_loopw [3] (fun i wr => ∃ k : Nat, k ≤ n ∧ i = .int .i64 k ∧ Hid (ordTo plankP (·.s0) ds k = true) ∧ Hid (Below w.heap.size w wr)) (fun i _ => n - (intOf i).toNat)
  case atStart => exact ⟨0, Nat.zero_le _, rfl, Lib.hid rfl, Lib.hid (Below.refl _ _)⟩
  case round =>
    obtain ⟨k, hk, rfl, hf, hb⟩ := hrel
    by_cases hlt : k < n
    · obtain ⟨x, hx, hxm⟩ := getD_of (l := ds) (i := k) (by rw [HN.out]; exact hlt)
      have zx := hz x hxm
      have HX := Lib.hid hx
      obtain ⟨b, o, rfl, hbB, hc⟩ := (H.out.below hb.out).at_ plankF_len (by omega)
      have HC := Lib.hid hc
      have hsz := hb.out.size
      have c0 : wr.cell? ⟨b, o + k * 6, none⟩ = some (.string x.s0) := hc k x 0 _ hx rfl
      have c1 : wr.cell? ⟨b, o + k * 6 + 1, none⟩ = some (.int .i64 x.a1) := hc k x 1 _ hx rfl
      have c2 : wr.cell? ⟨b, o + k * 6 + 2, none⟩ = some (.int .i64 x.a2) := hc k x 2 _ hx rfl
      have c3 : wr.cell? ⟨b, o + k * 6 + 3, none⟩ = some (.int .i64 x.a3) := hc k x 3 _ hx rfl
      have c4 : wr.cell? ⟨b, o + k * 6 + 4, none⟩ = some (.int .i64 x.a4) := hc k x 4 _ hx rfl
      have c5 : wr.cell? ⟨b, o + k * 6 + 5, none⟩ = some (.int .i64 x.a5) := hc k x 5 _ hx rfl
      have C0 : ∀ u : Bel wr.heap.size wr, u.val.cell? ⟨b, o + k * 6, none⟩ = some (.string x.s0) := bel_at c0 (by omega)
      have C1 : ∀ u : Bel wr.heap.size wr, u.val.cell? ⟨b, o + k * 6 + 1, none⟩ = some (.int .i64 x.a1) := bel_at c1 (by omega)
      have C2 : ∀ u : Bel wr.heap.size wr, u.val.cell? ⟨b, o + k * 6 + 2, none⟩ = some (.int .i64 x.a2) := bel_at c2 (by omega)
      have C3 : ∀ u : Bel wr.heap.size wr, u.val.cell? ⟨b, o + k * 6 + 3, none⟩ = some (.int .i64 x.a3) := bel_at c3 (by omega)
      have C4 : ∀ u : Bel wr.heap.size wr, u.val.cell? ⟨b, o + k * 6 + 4, none⟩ = some (.int .i64 x.a4) := bel_at c4 (by omega)
      have C5 : ∀ u : Bel wr.heap.size wr, u.val.cell? ⟨b, o + k * 6 + 5, none⟩ = some (.int .i64 x.a5) := bel_at c5 (by omega)
      clear c0 c1 c2 c3 c4 c5
      have tk0 : (0 : Int) ≤ k := by omega
      have tk1 : (k : Int) < n := by omega
      have tk2 : (k : Int).toNat = k := by simp
      clear hc hx hxm
      cases hp : plankP x
      · have hp' : plankB x.s0 x.a1 x.a2 x.a3 x.a4 x.a5 = false := hp
        have HF := Lib.hid (ordB_bad (p := plankP) (key := (·.s0)) (k := k) (by rw [HN.out]; exact hlt) (ordAt_no HX.out hp))
        clear hp
        go_wp2_with fail
        (refine wp_region_bel wr.heap.size wr (Below.refl _ _) (by kernel_rfl) (by kernel_rfl) ?_; (repeat (go_big_quiet_step ((first | (go_at_call 24; exact bel_same (plankoneat_is hp' _ zx (C0 _) (C1 _) (C2 _) (C3 _) (C4 _) (C5 _))))))); refine wpQuiet_nil ?_; rintro w1 ⟨⟨_, hb2⟩, rfl⟩)
        clear C0 C1 C2 C3 C4 C5 tk2
        have b2 := Lib.hid (below_more hb.out hb2 (Nat.le_refl _))
        go_wp2
        go_ret
        exact ⟨ret_bool (by rw [planksB, HF.out]; rfl), b2.out⟩
      · have hp' : plankB x.s0 x.a1 x.a2 x.a3 x.a4 x.a5 = true := hp
        by_cases h0 : k = 0
        · have HF := Lib.hid (ordTo_next hf.out (h0 ▸ ordAt_zero (h0 ▸ HX.out) hp))
          have dk : decide ((0 : Int) < k) = false := by simp; omega
          have dk' : decide (0 < k) = false := by simp; omega
          clear hp h0
          go_wp2_with fail
          (refine wp_region_bel wr.heap.size wr (Below.refl _ _) (by kernel_rfl) (by kernel_rfl) ?_; (repeat (go_big_quiet_step ((first | (go_at_call 24; exact bel_same (plankoneat_is hp' _ zx (C0 _) (C1 _) (C2 _) (C3 _) (C4 _) (C5 _))))))); refine wpQuiet_nil ?_; rintro w1 ⟨⟨_, hb2⟩, rfl⟩)
          clear C0 C1 C2 C3 C4 C5 tk2
          have b2 := Lib.hid (below_more hb.out hb2 (Nat.le_refl _))
          go_wp2
          go_roundw
          case rel => exact ⟨k + 1, by omega, by go_num, HF, b2⟩
          case measure => simp [intOf]; omega
        · obtain ⟨y, hy, hym⟩ := getD_of (l := ds) (i := k - 1) (by rw [HN.out]; omega)
          have HA := Lib.hid (ordAt_is (key := (·.s0)) (by omega) HX.out hy hp)
          have d0 : wr.cell? ⟨b, o + (k - 1) * 6, none⟩ = some (.string y.s0) := HC.out (k - 1) y 0 _ hy rfl
          have D0 := Lib.hid d0
          have dk : decide ((0 : Int) < k) = true := by simp; omega
          have dk' : decide (0 < k) = true := by simp; omega
          clear hp hy hym d0
          cases hl : lessB y.s0 x.s0
          · have hl' : Op.bytesLess y.s0.toList x.s0.toList = false := hl
            have HF := Lib.hid (ordB_bad (p := plankP) (key := (·.s0)) (k := k) (by rw [HN.out]; exact hlt) (HA.out.trans hl))
            clear hl
            go_wp2_with fail
            have hd : ∀ u : Bel wr.heap.size wr, u.val.cell? ⟨b, o + (k - 1) * 6, none⟩ = some (.string y.s0) := bel_at D0.out (by omega)
            have e1 : IntKind.i64.wrap ((k : Int) - 1) = (k : Int) - 1 := IntWalk.i64_in _ (by omega)
            have e2 : ((k : Int) - 1).toNat = k - 1 := by omega
            have e3 : 1 ≤ (k : Int) := by omega
            have e4 : (k : Int) - 1 < n := by omega
            (refine wp_region_bel wr.heap.size wr (Below.refl _ _) (by kernel_rfl) (by kernel_rfl) ?_; (repeat (go_big_quiet_step ((first | (go_at_call 24; exact bel_same (plankoneat_is hp' _ zx (C0 _) (C1 _) (C2 _) (C3 _) (C4 _) (C5 _))))))); refine wpQuiet_nil ?_; rintro w1 ⟨⟨_, hb2⟩, rfl⟩)
            clear C0 C1 C2 C3 C4 C5 tk2 hd e1 e2 e3 e4
            have b2 := Lib.hid (below_more hb.out hb2 (Nat.le_refl _))
            go_wp2
            go_ret
            exact ⟨ret_bool (by rw [planksB, HF.out]; rfl), b2.out⟩
          · have hl' : Op.bytesLess y.s0.toList x.s0.toList = true := hl
            have HF := Lib.hid (ordTo_next hf.out (HA.out.trans hl))
            clear hl
            go_wp2_with fail
            have hd : ∀ u : Bel wr.heap.size wr, u.val.cell? ⟨b, o + (k - 1) * 6, none⟩ = some (.string y.s0) := bel_at D0.out (by omega)
            have e1 : IntKind.i64.wrap ((k : Int) - 1) = (k : Int) - 1 := IntWalk.i64_in _ (by omega)
            have e2 : ((k : Int) - 1).toNat = k - 1 := by omega
            have e3 : 1 ≤ (k : Int) := by omega
            have e4 : (k : Int) - 1 < n := by omega
            (refine wp_region_bel wr.heap.size wr (Below.refl _ _) (by kernel_rfl) (by kernel_rfl) ?_; (repeat (go_big_quiet_step ((first | (go_at_call 24; exact bel_same (plankoneat_is hp' _ zx (C0 _) (C1 _) (C2 _) (C3 _) (C4 _) (C5 _))))))); refine wpQuiet_nil ?_; rintro w1 ⟨⟨_, hb2⟩, rfl⟩)
            clear C0 C1 C2 C3 C4 C5 tk2 hd e1 e2 e3 e4
            have b2 := Lib.hid (below_more hb.out hb2 (Nat.le_refl _))
            go_wp2
            go_roundw
            case rel => exact ⟨k + 1, by omega, by go_num, HF, b2⟩
            case measure => simp [intOf]; omega
    · obtain rfl : k = n := by omega
      have HF : Hid (ordB plankP (·.s0) ds = true) := Lib.hid (by unfold ordB; rw [HN.out]; exact hf.out)
      go_wp2
      go_ret
      exact ⟨ret_bool (by rw [planksB, HF.out, HN.out]; simp; omega), hb.out⟩
end Go.Proofs.Ytoodlpgamlelaaa
