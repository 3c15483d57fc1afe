/- Contracts of IsName: the program's and the reference's answer the same plain test. -/
import Derived.Test.YtoodlpgamlelaaaNum
set_option linter.unusedVariables false
namespace Go.Proofs.Ytoodlpgamlelaaa
open Go.RowKit

theorem isDigit_any (n : Int) (w : World) (h : 0 ≤ n ∧ n ≤ 255) :
    Calls Try.prog 52 #[.int .u8 n] w fun e w' => e = .returned (.bool (inB n 48 57)) ∧ w = w' := by
  by_cases h1 : 48 ≤ n
  · by_cases h2 : n ≤ 57
    · rw [inB_mk ⟨h1, h2⟩]
      go_enter Try.func52, Try.ntmps52
      go_wp2
      go_ret
      exact ⟨rfl, rfl⟩
    · rw [inB_no (by omega)]
      go_enter Try.func52, Try.ntmps52
      go_wp2
      go_ret
      exact ⟨rfl, rfl⟩
  · rw [inB_no (by omega)]
    go_enter Try.func52, Try.ntmps52
    go_wp2
    go_ret
    exact ⟨rfl, rfl⟩
theorem l01Digit_any (n : Int) (w : World) (h : 0 ≤ n ∧ n ≤ 255) :
    Calls Try.prog 54 #[.int .u8 n] w fun e w' => e = .returned (.bool (inB n 48 57)) ∧ w = w' := by
  by_cases h1 : 48 ≤ n
  · by_cases h2 : n ≤ 57
    · rw [inB_mk ⟨h1, h2⟩]
      go_enter Try.func54, Try.ntmps54
      go_wp2
      go_ret
      exact ⟨rfl, rfl⟩
    · rw [inB_no (by omega)]
      go_enter Try.func54, Try.ntmps54
      go_wp2
      go_ret
      exact ⟨rfl, rfl⟩
  · rw [inB_no (by omega)]
    go_enter Try.func54, Try.ntmps54
    go_wp2
    go_ret
    exact ⟨rfl, rfl⟩
theorem l01Small_any (n : Int) (w : World) (h : 0 ≤ n ∧ n ≤ 255) :
    Calls Try.prog 53 #[.int .u8 n] w fun e w' => e = .returned (.bool (inB n 97 122)) ∧ w = w' := by
  by_cases h1 : 97 ≤ n
  · by_cases h2 : n ≤ 122
    · rw [inB_mk ⟨h1, h2⟩]
      go_enter Try.func53, Try.ntmps53
      go_wp2
      go_ret
      exact ⟨rfl, rfl⟩
    · rw [inB_no (by omega)]
      go_enter Try.func53, Try.ntmps53
      go_wp2
      go_ret
      exact ⟨rfl, rfl⟩
  · rw [inB_no (by omega)]
    go_enter Try.func53, Try.ntmps53
    go_wp2
    go_ret
    exact ⟨rfl, rfl⟩

def bt (s : ByteArray) (k : Nat) : Int := if h : k < s.size then (s[k].toNat : Int) else 0
theorem bt_eq {s : ByteArray} {k : Nat} (h : k < s.size) : bt s k = (s[k].toNat : Int) := by unfold bt; rw [dif_pos h]
def okAt (s : ByteArray) (k : Nat) : Bool := inB (bt s k) 97 122 || (!(k == 0) && inB (bt s k) 48 57)
def okTo (s : ByteArray) : Nat → Bool
  | 0 => true
  | k + 1 => okTo s k && okAt s k
def nameB (s : ByteArray) : Bool := decide (0 < s.size) && (decide (s.size ≤ 10) && okTo s s.size)
theorem okTo_bad {s : ByteArray} {k n : Nat} (h : k < n) (g : okAt s k = false) : okTo s n = false := by
  induction n with
  | zero => omega
  | succ n ih =>
    rw [okTo]
    rcases Nat.lt_or_ge k n with hl | hl
    · rw [ih hl]; rfl
    · obtain rfl : k = n := by omega
      rw [g, Bool.and_false]
theorem nameB_bad {s : ByteArray} {k : Nat} (h : k < s.size) (g : okAt s k = false) : nameB s = false := by
  rw [nameB, okTo_bad h g]; simp
theorem nameB_long {s : ByteArray} (h : ¬ s.size ≤ 10) : nameB s = false := by simp [nameB, h]
theorem nameB_nil {s : ByteArray} (h : s.size = 0) : nameB s = false := by simp [nameB, h]
theorem nameB_all {s : ByteArray} (h : 0 < s.size) (g : okTo s s.size = true) : nameB s = decide (s.size ≤ 10) := by simp [nameB, h, g]
theorem okTo_next {s : ByteArray} {k : Nat} (h : okTo s k = true) (g : okAt s k = true) : okTo s (k + 1) = true := by rw [okTo, h, g]; rfl
theorem toList_ne {s : ByteArray} (h : 0 < s.size) : s.toList.isEmpty = false := by
  rw [ByteArray.toList_eq]
  obtain ⟨⟨l⟩⟩ := s
  cases l with
  | nil => simp [ByteArray.size] at h
  | cons a l => rfl
theorem toList_nil {s : ByteArray} (h : s.size = 0) : s = ⟨#[]⟩ := by
  obtain ⟨⟨l⟩⟩ := s
  cases l with
  | nil => rfl
  | cons a l => simp [ByteArray.size] at h
theorem u8_le (c : UInt8) : (c.toNat : Int) ≤ 255 := by have := UInt8.toNat_lt c; omega
set_option maxHeartbeats 1000000 in
theorem IsName_any (s : ByteArray) (w : World) (hs : s.size ≤ maxLen) :
    Calls Try.prog 41 #[.string s] w fun e w' => e = .returned (.bool (nameB s)) ∧ w = w' := by
  unfold maxLen at hs
  go_enter Try.func41, Try.ntmps41
  go_wp2
  go_loop [3, 2, 4] (fun i r l => ∃ k : Nat, k ≤ s.size ∧ i = .int .i64 k ∧ r = .bool false ∧ Hid (okTo s k = true)) (fun i _ _ => s.size - (intOf i).toNat)
  case atStart => exact ⟨0, Nat.zero_le _, rfl, rfl, Lib.hid rfl⟩
  case round =>
    obtain ⟨k, hk, rfl, rfl, hf⟩ := hrel
    by_cases hlt : k < s.size
    · have hb := Lib.hid (bt_eq hlt)
      have hu := u8_le s[k]
      by_cases h1 : 97 ≤ (s[k].toNat : Int)
      · by_cases h2 : (s[k].toNat : Int) ≤ 122
        · have HF := Lib.hid (okTo_next hf.out (show okAt s k = true by unfold okAt; rw [hb.out, inB_mk ⟨h1, h2⟩]; rfl))
          go_wp2
          go_round
          case rel => exact ⟨k + 1, by omega, by go_num, rfl, HF⟩
          case measure => simp [intOf]; omega
        · have HF := Lib.hid (nameB_bad hlt (show okAt s k = false by unfold okAt; rw [hb.out, inB_no (by omega), inB_no (by omega)]; simp))
          by_cases h0 : k = 0
          · subst h0
            go_wp2
            go_ret
            exact ⟨ret_bool HF.out.symm, rfl⟩
          · have h0' : ((k : Int) == 0) = false := by simpa using h0
            have hd := inB_no (n := (s[k].toNat : Int)) (lo := 48) (hi := 57) (by omega)
            go_wp2_with ((go_at_call 52; refine (isDigit_any _ _ (by omega)).mono ?_; rintro e w' ⟨rfl, rfl⟩))
            go_ret
            exact ⟨ret_bool HF.out.symm, rfl⟩
      · by_cases h0 : k = 0
        · have HF := Lib.hid (nameB_bad hlt (show okAt s k = false by unfold okAt; rw [hb.out, inB_no (by omega)]; simp [h0]))
          subst h0
          go_wp2
          go_ret
          exact ⟨ret_bool HF.out.symm, rfl⟩
        · have h0' : ((k : Int) == 0) = false := by simpa using h0
          cases hd : inB (s[k].toNat : Int) 48 57
          · have HF := Lib.hid (nameB_bad hlt (show okAt s k = false by unfold okAt; rw [hb.out, inB_no (n := (s[k].toNat : Int)) (lo := 97) (by omega), hd]; simp))
            go_wp2_with ((go_at_call 52; refine (isDigit_any _ _ (by omega)).mono ?_; rintro e w' ⟨rfl, rfl⟩))
            go_ret
            exact ⟨ret_bool HF.out.symm, rfl⟩
          · have HF := Lib.hid (okTo_next hf.out (show okAt s k = true by unfold okAt; rw [hb.out, hd]; simp [h0]))
            go_wp2_with ((go_at_call 52; refine (isDigit_any _ _ (by omega)).mono ?_; rintro e w' ⟨rfl, rfl⟩))
            go_round
            case rel => exact ⟨k + 1, by omega, by go_num, rfl, HF⟩
            case measure => simp [intOf]; omega
    · obtain rfl : k = s.size := by omega
      by_cases h0 : 0 < s.size
      · have he := toList_ne h0
        have HF := Lib.hid (nameB_all h0 hf.out)
        go_wp2_with ((go_at_call 23; refine (few_any _ _ _ (by omega)).mono ?_; rintro e w' ⟨rfl, rfl⟩))
        go_ret
        exact ⟨ret_bool (by rw [HF.out]; simp; omega), rfl⟩
      · have HF := Lib.hid (nameB_nil (s := s) (by omega))
        obtain rfl := toList_nil (s := s) (by omega)
        go_wp2
        go_ret
        exact ⟨ret_bool HF.out.symm, rfl⟩
theorem nameB_first {s : ByteArray} (h : 0 < s.size) (g : inB (bt s 0) 97 122 = false) : nameB s = false :=
  nameB_bad h (by unfold okAt; rw [g]; rfl)
set_option maxHeartbeats 1000000 in
theorem l01Name_any (s : ByteArray) (w : World) (hs : s.size ≤ maxLen) :
    Calls Try.prog 43 #[.string s] w fun e w' => e = .returned (.bool (nameB s)) ∧ w = w' := by
  unfold maxLen at hs
  by_cases h0 : 0 < s.size
  · have he := toList_ne h0
    have he' : s.toList ≠ [] := by intro h; rw [h] at he; cases he
    by_cases h1 : s.size ≤ 10
    · have hu := u8_le s[0]
      have hb0 := Lib.hid (bt_eq h0)
      cases h2 : inB (s[0].toNat : Int) 97 122
      · rw [nameB_first h0 (by rw [hb0.out]; exact h2)]
        go_enter Try.func43, Try.ntmps43
        go_wp2_with ((go_at_call 53; refine (l01Small_any _ _ (by omega)).mono ?_; rintro e w' ⟨rfl, rfl⟩))
        go_ret
        exact ⟨rfl, rfl⟩
      · have H2 := Lib.hid h2
        go_enter Try.func43, Try.ntmps43
        go_wp2_with ((go_at_call 53; refine (l01Small_any _ _ (by omega)).mono ?_; rintro e w' ⟨rfl, rfl⟩))
        clear h2 hu
        go_loop [3, 2] (fun i r => ∃ k : Nat, k ≤ s.size ∧ i = .int .i64 k ∧ r = .bool false ∧ Hid (okTo s k = true)) (fun i _ => s.size - (intOf i).toNat)
        case atStart => exact ⟨0, Nat.zero_le _, rfl, rfl, Lib.hid rfl⟩
        case round =>
          obtain ⟨k, hk, rfl, rfl, hf⟩ := hrel
          by_cases hlt : k < s.size
          · have hb := Lib.hid (bt_eq hlt)
            have hu := u8_le s[k]
            cases h3 : inB (s[k].toNat : Int) 97 122
            · have hk0 : k ≠ 0 := by
                rintro rfl
                have := H2.out
                rw [h3] at this
                cases this
              cases h4 : inB (s[k].toNat : Int) 48 57
              · have HF := Lib.hid (nameB_bad hlt (show okAt s k = false by unfold okAt; rw [hb.out, h3, h4]; simp))
                go_wp2_with (first | (go_at_call 53; refine (l01Small_any _ _ (by omega)).mono ?_; rintro e w' ⟨rfl, rfl⟩) | (go_at_call 54; refine (l01Digit_any _ _ (by omega)).mono ?_; rintro e w' ⟨rfl, rfl⟩))
                go_ret
                exact ⟨ret_bool HF.out.symm, rfl⟩
              · have HF := Lib.hid (okTo_next hf.out (show okAt s k = true by unfold okAt; rw [hb.out, h3, h4]; simp [hk0]))
                go_wp2_with (first | (go_at_call 53; refine (l01Small_any _ _ (by omega)).mono ?_; rintro e w' ⟨rfl, rfl⟩) | (go_at_call 54; refine (l01Digit_any _ _ (by omega)).mono ?_; rintro e w' ⟨rfl, rfl⟩))
                go_round
                case rel => exact ⟨k + 1, by omega, by go_num, rfl, HF⟩
                case measure => simp [intOf]; omega
            · have HF := Lib.hid (okTo_next hf.out (show okAt s k = true by unfold okAt; rw [hb.out, h3]; rfl))
              go_wp2_with (first | (go_at_call 53; refine (l01Small_any _ _ (by omega)).mono ?_; rintro e w' ⟨rfl, rfl⟩) | (go_at_call 54; refine (l01Digit_any _ _ (by omega)).mono ?_; rintro e w' ⟨rfl, rfl⟩))
              go_round
              case rel => exact ⟨k + 1, by omega, by go_num, rfl, HF⟩
              case measure => simp [intOf]; omega
          · obtain rfl : k = s.size := by omega
            have HF := Lib.hid (nameB_all h0 hf.out)
            go_wp2
            go_ret
            exact ⟨ret_bool (by rw [HF.out]; simpa using h1), rfl⟩
    · rw [nameB_long h1]
      go_enter Try.func43, Try.ntmps43
      go_wp2
      go_ret
      exact ⟨rfl, rfl⟩
  · rw [nameB_nil (s := s) (by omega)]
    obtain rfl := toList_nil (s := s) (by omega)
    go_enter Try.func43, Try.ntmps43
    go_wp2
    go_ret
    exact ⟨rfl, rfl⟩
end Go.Proofs.Ytoodlpgamlelaaa
