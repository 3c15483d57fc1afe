/- Contracts of noteTone, NoteTone. -/
import Derived.Test.YtbkmfhdagnlgiaaNum
set_option linter.unusedVariables false
namespace Go.Proofs.Ytbkmfhdagnlgiaa
open Go.RowKit

def toneV : Array Value := #[.int .i64 1308, .int .i64 1386, .int .i64 1468, .int .i64 1556, .int .i64 1648, .int .i64 1746, .int .i64 1850, .int .i64 1960, .int .i64 2077, .int .i64 2200, .int .i64 2331, .int .i64 2469]
def toneT (r : Int) : Int := [1308, 1386, 1468, 1556, 1648, 1746, 1850, 1960, 2077, 2200, 2331, 2469].getD r.toNat 0
def pow2 (q : Int) : Int := [1, 2, 4, 8, 16, 32].getD q.toNat 0
def toneL (n : Int) : Int := toneT (n % 12) * pow2 (n / 12)
theorem twelve (r : Int) (h : 0 ≤ r) (g : r < 12) : r = 0 ∨ r = 1 ∨ r = 2 ∨ r = 3 ∨ r = 4 ∨ r = 5 ∨ r = 6 ∨ r = 7 ∨ r = 8 ∨ r = 9 ∨ r = 10 ∨ r = 11 := by omega
theorem six (r : Int) (h : 0 ≤ r) (g : r < 6) : r = 0 ∨ r = 1 ∨ r = 2 ∨ r = 3 ∨ r = 4 ∨ r = 5 := by omega
theorem toneT_bd (r : Int) (h : 0 ≤ r) (g : r < 12) : 1308 ≤ toneT r ∧ toneT r ≤ 2469 := by
  rcases twelve r h g with rfl | rfl | rfl | rfl | rfl | rfl | rfl | rfl | rfl | rfl | rfl | rfl <;> decide
theorem pow2_bd (r : Int) (h : 0 ≤ r) (g : r < 6) : 1 ≤ pow2 r ∧ pow2 r ≤ 32 := by
  rcases six r h g with rfl | rfl | rfl | rfl | rfl | rfl <;> decide
theorem tone_idx (r : Int) (h : 0 ≤ r) (g : r < 12) (w : World) : (Instr.index 69 (.agg toneV) (.int .i64 r)).run Try.prog w = .ok (.int .i64 (toneT r)) w := by
  rcases twelve r h g with rfl | rfl | rfl | rfl | rfl | rfl | rfl | rfl | rfl | rfl | rfl | rfl <;> kernel_rfl
set_option maxHeartbeats 400000 in
theorem noteTone_any (n : Int) (w : World) (n0 : 0 ≤ n) (n1 : n ≤ 60) :
    Calls Try.prog 51 #[.int .i64 n] w fun e w' => e = .returned (.int .i64 (toneL n)) ∧ w = w' := by
  have hi := fun w => tone_idx (n % 12) (by omega) (by omega) w
  simp only [toneV] at hi
  have ht := toneT_bd (n % 12) (by omega) (by omega)
  have hq : n / 12 = 0 ∨ n / 12 = 1 ∨ n / 12 = 2 ∨ n / 12 = 3 ∨ n / 12 = 4 ∨ n / 12 = 5 := by omega
  unfold toneL
  rcases hq with hq | hq | hq | hq | hq | hq
  all_goals
    rw [hq]
    go_enter Try.func51, Try.ntmps51
    go_wp2
    go_ret
    exact ⟨ret_int (by simp [pow2]), rfl⟩
theorem tone_cell (r : Int) (h : 0 ≤ r) (g : r < 12) (w : World) : (w.alloc (.cells toneV 2)).cell? ⟨w.heap.size, r.toNat, none⟩ = some (.int .i64 (toneT r)) := by
  rcases twelve r h g with rfl | rfl | rfl | rfl | rfl | rfl | rfl | rfl | rfl | rfl | rfl | rfl <;> simp [toneV, toneT, go_sem]
set_option maxHeartbeats 400000 in
theorem l16NoteTone_any (n : Int) (w : World) (n0 : 0 ≤ n) (n1 : n ≤ 60) :
    Calls Try.prog 49 #[.int .i64 n] w fun e w' => e = .returned (.int .i64 (toneL n)) ∧ Below w.heap.size w w' := by
  have hi := tone_cell (n % 12) (by omega) (by omega) w
  simp only [toneV] at hi
  have ht := toneT_bd (n % 12) (by omega) (by omega)
  have hq : n / 12 = 0 ∨ n / 12 = 1 ∨ n / 12 = 2 ∨ n / 12 = 3 ∨ n / 12 = 4 ∨ n / 12 = 5 := by omega
  unfold toneL
  rcases hq with hq | hq | hq | hq | hq | hq
  all_goals
    rw [hq]
    go_enter Try.func49, Try.ntmps49
    go_wp2
    go_ret
    exact ⟨ret_int (by simp [pow2]), (Below.refl _ _).alloc (Nat.le_refl _) _⟩
theorem toneL_bd (n : Int) (h : 0 ≤ n) (g : n ≤ 60) : 1308 ≤ toneL n ∧ toneL n ≤ 79008 := by
  have a := toneT_bd (n % 12) (by omega) (by omega)
  have b := pow2_bd (n / 12) (by omega) (by omega)
  have m := mul_bd (show 0 ≤ toneT (n % 12) by omega) a.2 (show 0 ≤ pow2 (n / 12) by omega) b.2
  have k : toneT (n % 12) * 1 ≤ toneT (n % 12) * pow2 (n / 12) := Int.mul_le_mul_of_nonneg_left b.1 (by omega)
  unfold toneL
  omega
def absL (n : Int) : Int := max n (-n)
theorem absL_bd {n m : Int} (h : -m ≤ n) (g : n ≤ m) : 0 ≤ absL n ∧ absL n ≤ m := by unfold absL; omega
theorem distance_any (a b : Int) (w : World) (h : -1000000000000000 ≤ a ∧ a ≤ 1000000000000000) (g : -1000000000000000 ≤ b ∧ b ≤ 1000000000000000) :
    Calls Try.prog 65 #[.int .i64 a, .int .i64 b] w fun e w' => e = .returned (.int .i64 (absL (a - b))) ∧ w = w' := by
  by_cases hc : a - b < b - a
  all_goals
    go_enter Try.func65, Try.ntmps65
    go_wp2
    go_ret
    exact ⟨ret_int (by unfold absL; omega), rfl⟩
theorem l08Abs_any (a : Int) (w : World) (h : -1000000000000000 ≤ a ∧ a ≤ 1000000000000000) :
    Calls Try.prog 63 #[.int .i64 a] w fun e w' => e = .returned (.int .i64 (absL a)) ∧ w = w' := by
  go_enter Try.func63, Try.ntmps63
  go_wp2_with (go_at_call 72; refine (l00Max_any _ _ _).mono ?_; rintro e w' ⟨rfl, rfl⟩)
  go_ret
  exact ⟨rfl, rfl⟩
def ntL (n : Int) : Int × Int := if inB n 0 60 = true then (toneL n, 0) else (0, 2)
theorem NoteTone_i (n : Int) (w : World) :
    Calls Try.prog 18 #[.int .i64 n] w fun e w' => e = .returned (.tuple #[.int .i64 (ntL n).1, .int .i64 (ntL n).2]) ∧ w = w' := by
  cases h : inB n 0 60
  · simp only [ntL, h]
    go_enter Try.func18, Try.ntmps18
    go_wp2_with (go_at_call 50; refine (within_any _ _ _ _).mono ?_; rintro e w' ⟨rfl, rfl⟩)
    go_ret2
    exact ⟨rfl, rfl⟩
  · simp only [ntL, h, if_true]
    have b := inB_t h
    go_enter Try.func18, Try.ntmps18
    go_wp2_with (first | (go_at_call 50; refine (within_any _ _ _ _).mono ?_; rintro e w' ⟨rfl, rfl⟩) | (go_at_call 51; refine (noteTone_any _ _ b.1 b.2).mono ?_; rintro e w' ⟨rfl, rfl⟩))
    go_ret2
    exact ⟨rfl, rfl⟩
theorem NoteTone_s (n : Int) (w : World) :
    Calls Try.prog 17 #[.int .i64 n] w fun e w' => e = .returned (.tuple #[.int .i64 (ntL n).1, .int .i64 (ntL n).2]) ∧ Below w.heap.size w w' := by
  cases h : inB n 0 60
  · simp only [ntL, h]
    go_enter Try.func17, Try.ntmps17
    go_wp2_with (go_at_call 48; refine (l16Note_any _ _).mono ?_; rintro e w' ⟨rfl, rfl⟩)
    go_ret2
    exact ⟨rfl, Below.refl _ _⟩
  · simp only [ntL, h, if_true]
    have b := inB_t h
    go_enter Try.func17, Try.ntmps17
    go_wp2_with (first | (go_at_call 48; refine (l16Note_any _ _).mono ?_; rintro e w' ⟨rfl, rfl⟩) | (go_at_call 49; refine (l16NoteTone_any _ _ b.1 b.2).mono ?_; rintro e w1 ⟨rfl, hb⟩))
    go_ret2
    exact ⟨rfl, hb⟩
/-- the best of the notes 0 .. k - 1 -/
def nbL (t : Int) : Nat → Int
  | 0 => 0
  | k + 1 => if absL (toneL k - t) < absL (toneL (nbL t k) - t) then (k : Int) else nbL t k
theorem nbL_one (t : Int) : nbL t 1 = 0 := by simp [nbL]
theorem nbL_bd (t : Int) (k : Nat) (h : k ≤ 61) : 0 ≤ nbL t k ∧ nbL t k ≤ 60 := by
  induction k with
  | zero => simp [nbL]
  | succ k ih =>
    have := ih (by omega)
    rw [nbL]
    split <;> omega
theorem nbL_t {t : Int} {k : Nat} (h : absL (toneL k - t) < absL (toneL (nbL t k) - t)) : (k : Int) = nbL t (k + 1) := by rw [nbL, if_pos h]
theorem nbL_f {t : Int} {k : Nat} (h : ¬ absL (toneL k - t) < absL (toneL (nbL t k) - t)) : nbL t k = nbL t (k + 1) := by rw [nbL, if_neg h]
def noL (t : Int) : Int × Int × Int := if inB t 1000 100000 = true then (nbL t 61, t - toneL (nbL t 61), 0) else (0, 0, 2)
theorem int_eq {a b : Int} (h : a = b) : Value.int .i64 a = Value.int .i64 b := by rw [h]
set_option maxHeartbeats 400000 in
theorem NoteOf_i (t : Int) (w : World) :
    Calls Try.prog 27 #[.int .i64 t] w fun e w' => e = .returned (.tuple #[.int .i64 (noL t).1, .int .i64 (noL t).2.1, .int .i64 (noL t).2.2]) ∧ w = w' := by
  cases h : inB t 1000 100000
  · simp only [noL, h]
    go_enter Try.func27, Try.ntmps27
    go_wp2_with (go_at_call 64; refine (isTone_any _ _).mono ?_; rintro e w' ⟨rfl, rfl⟩)
    go_ret3
    exact ⟨rfl, rfl⟩
  · simp only [noL, h, if_true]
    have b := inB_t h
    go_enter Try.func27, Try.ntmps27
    go_wp2_with (first | (go_at_call 64; refine (isTone_any _ _).mono ?_; rintro e w' ⟨rfl, rfl⟩))
    clear h
    go_loop [5, 10] (fun s i => ∃ k : Nat, k ≤ 61 ∧ i = .int .i64 k ∧ s = .int .i64 (nbL t k)) (fun _ i => 61 - (intOf i).toNat)
    case atStart => exact ⟨0, by omega, rfl, rfl⟩
    case round =>
      obtain ⟨k, hk, rfl, rfl⟩ := hrel
      have hn := nbL_bd t k hk
      have hb := toneL_bd _ hn.1 hn.2
      by_cases hlt : k < 61
      · have ht := toneL_bd k (by omega) (by omega)
        by_cases hc : absL (toneL k - t) < absL (toneL (nbL t k) - t)
        · have HF := Lib.hid (nbL_t hc)
          go_wp2_with (first | (go_at_call 51; refine (noteTone_any _ _ (by omega) (by omega)).mono ?_; rintro e w' ⟨rfl, rfl⟩) | (go_at_call 65; refine (distance_any _ _ _ (by omega) (by omega)).mono ?_; rintro e w' ⟨rfl, rfl⟩))
          go_round
          case rel => exact ⟨k + 1, by omega, by go_num, int_eq HF.out⟩
          case measure => simp [intOf]; omega
        · have HF := Lib.hid (nbL_f hc)
          go_wp2_with (first | (go_at_call 51; refine (noteTone_any _ _ (by omega) (by omega)).mono ?_; rintro e w' ⟨rfl, rfl⟩) | (go_at_call 65; refine (distance_any _ _ _ (by omega) (by omega)).mono ?_; rintro e w' ⟨rfl, rfl⟩))
          go_round
          case rel => exact ⟨k + 1, by omega, by go_num, int_eq HF.out⟩
          case measure => simp [intOf]; omega
      · obtain rfl : k = 61 := by omega
        go_wp2_with (first | (go_at_call 51; refine (noteTone_any _ _ (by omega) (by omega)).mono ?_; rintro e w' ⟨rfl, rfl⟩))
        go_ret3
        exact ⟨rfl, rfl⟩
set_option maxHeartbeats 400000 in
theorem NoteOf_s (t : Int) (w : World) :
    Calls Try.prog 26 #[.int .i64 t] w fun e w' => e = .returned (.tuple #[.int .i64 (noL t).1, .int .i64 (noL t).2.1, .int .i64 (noL t).2.2]) ∧ Below w.heap.size w w' := by
  cases h : inB t 1000 100000
  · simp only [noL, h]
    go_enter Try.func26, Try.ntmps26
    go_wp2_with (go_at_call 62; refine (l16Tone_any _ _).mono ?_; rintro e w' ⟨rfl, rfl⟩)
    go_ret3
    exact ⟨rfl, Below.refl _ _⟩
  · simp only [noL, h, if_true]
    have b := inB_t h
    go_enter Try.func26, Try.ntmps26
    go_wp2_with (first | (go_at_call 62; refine (l16Tone_any _ _).mono ?_; rintro e w' ⟨rfl, rfl⟩))
    clear h
    go_loopw [5, 6] (fun s i wr => ∃ k : Nat, 1 ≤ k ∧ k ≤ 61 ∧ i = .int .i64 k ∧ s = .int .i64 (nbL t k) ∧ Below w.heap.size w wr) (fun _ i _ => 61 - (intOf i).toNat)
    case atStart => exact ⟨1, by omega, by omega, rfl, int_eq (nbL_one t).symm, Below.refl _ _⟩
    case round =>
      obtain ⟨k, hk0, hk, rfl, rfl, hbel⟩ := hrel
      have hn := nbL_bd t k hk
      have hb := toneL_bd _ hn.1 hn.2
      by_cases hlt : k < 61
      · have ht := toneL_bd k (by omega) (by omega)
        by_cases hc : absL (toneL k - t) < absL (toneL (nbL t k) - t)
        all_goals
          have HF := Lib.hid (by first | exact nbL_t hc | exact nbL_f hc)
          go_wp2_with fail
          refine (l16NoteTone_any _ _ (by omega) (by omega)).mono ?_
          rintro e w1 ⟨rfl, hb1⟩
          go_wp2_with fail
          refine (l08Abs_any _ _ (by omega)).mono ?_
          rintro e w' ⟨rfl, rfl⟩
          go_wp2_with fail
          refine (l16NoteTone_any _ _ (by omega) (by omega)).mono ?_
          rintro e w2 ⟨rfl, hb2⟩
          go_wp2_with fail
          refine (l08Abs_any _ _ (by omega)).mono ?_
          rintro e w' ⟨rfl, rfl⟩
          have hb3 := Lib.hid (hbel.trans ((hb1.trans (hb2.mono hb1.size)).mono hbel.size))
          clear hb1 hb2 hbel
          go_wp2
          go_roundw
          case rel => exact ⟨k + 1, by omega, by omega, by go_num, int_eq HF.out, hb3.out⟩
          case measure => simp [intOf]; omega
      · obtain rfl : k = 61 := by omega
        go_wp2_with fail
        refine (l16NoteTone_any _ _ (by omega) (by omega)).mono ?_
        rintro e w1 ⟨rfl, hb1⟩
        have hb3 := Lib.hid (hbel.trans (hb1.mono hbel.size))
        clear hb1 hbel
        go_wp2
        go_ret3
        exact ⟨rfl, hb3.out⟩
end Go.Proofs.Ytbkmfhdagnlgiaa
