/- The settling of debts. -/
import Derived.Test.YtednmmmnkcbpjaaDebtP
import Derived.Test.YtednmmmnkcbpjaaDebtS
import Derived.Test.YtednmmmnkcbpjaaCopy
import Derived.Test.YtednmmmnkcbpjaaMarkE
set_option linter.unusedVariables false
set_option linter.unusedSimpArgs false
namespace Go.Proofs.Ytednmmmnkcbpjaa
open Go.RowKit

theorem getDz {l : List Int} {i : Nat} {z : Int} (h : l[i]? = some z) : l.getD i 0 = z := by simp [h]
theorem IsName_is {s : ByteArray} {b : Bool} (h : nameB s = b) (w : World) (hs : s.size ≤ maxLen) :
    Calls Try.prog 56 #[.string s] w fun e w' => e = .returned (.bool b) ∧ w = w' := by rw [← h]; exact IsName_any s w hs
theorem l01Name_is {s : ByteArray} {b : Bool} (h : nameB s = b) (w : World) (hs : s.size ≤ maxLen) :
    Calls Try.prog 41 #[.string s] w fun e w' => e = .returned (.bool b) ∧ w = w' := by rw [← h]; exact l01Name_any s w hs
theorem debtC_name {ss : List ByteArray} {l : List Int} (h : namesB ss = false) : debtC ss l = 1 := by unfold debtC; rw [if_pos h]
theorem debtC_range {ss : List ByteArray} {l : List Int} (h : namesB ss = true) (g : rangeTo l l.length = false) : debtC ss l = 2 := by unfold debtC; rw [if_neg (by rw [h]; simp), if_pos g]
theorem debtC_order {ss : List ByteArray} {l : List Int} (h : namesB ss = true) (g : rangeTo l l.length = true) (q : ¬ (ss.length = l.length) ∨ 16 < ss.length) : debtC ss l = 7 := by unfold debtC; rw [if_neg (by rw [h]; simp), if_neg (by rw [g]; simp), if_pos q]
theorem debtC_state {ss : List ByteArray} {l : List Int} (h : namesB ss = true) (g : rangeTo l l.length = true) (q : ¬ (¬ (ss.length = l.length) ∨ 16 < ss.length)) (z : ¬ sm l = 0) : debtC ss l = 6 := by unfold debtC; rw [if_neg (by rw [h]; simp), if_neg (by rw [g]; simp), if_neg q, if_pos z]
theorem debtC_ok {ss : List ByteArray} {l : List Int} (h : namesB ss = true) (g : rangeTo l l.length = true) (q : ¬ (¬ (ss.length = l.length) ∨ 16 < ss.length)) (z : sm l = 0) : debtC ss l = 0 := by unfold debtC; rw [if_neg (by rw [h]; simp), if_neg (by rw [g]; simp), if_neg q, if_neg (by omega)]
set_option maxHeartbeats 2000000 in
theorem debtsCode_i (A A' : Option Addr) (c c' n m : Nat) (ss : List ByteArray) (zs : List Int) (w : World) (h : Rd w w.heap.size 1 A n (sv ss)) (h' : Rd w w.heap.size 1 A' m (iv zs)) (hz : ∀ s ∈ ss, s.size ≤ maxLen) (hn : n ≤ 1048576) (hm : m ≤ 1048576) :
    Calls Try.prog 45 #[.slice A n c, .slice A' m c'] w fun e w' => e = .returned (.int .i64 (debtC ss zs)) ∧ w = w' := by
  have HN := Lib.hid h.lenS
  have HM := Lib.hid h'.len
  have H := Lib.hid h
  have H' := Lib.hid h'
  have HZ := Lib.hid hz
  clear h h' hz
  go_enter Try.func45, Try.ntmps45
  go_wp2
  go_loop [12] (fun i => ∃ k : Nat, k ≤ n ∧ i = .int .i64 k ∧ Hid (ordTo nameB id ss k = true)) (fun i => n - (intOf i).toNat)
  case atStart => exact ⟨0, Nat.zero_le _, rfl, Lib.hid rfl⟩
  case round =>
    obtain ⟨k, hk, rfl, hf⟩ := hrel
    by_cases hlt : k < n
    · obtain ⟨x, hx, hxm⟩ := getD_of (l := ss) (i := k) (by rw [HN.out]; exact hlt)
      have zx := HZ.out x hxm
      have HX := Lib.hid hx
      obtain ⟨b, o, rfl, hbB, hc⟩ := H.out.strs (by omega)
      have HC := Lib.hid hc
      have c0 : w.cell? ⟨b, o + k, none⟩ = some (.string x) := hc k x hx
      clear hc hx hxm
      cases hp : nameB x
      · have HF := Lib.hid (debtC_name (l := zs) (ordB_bad (p := nameB) (key := id) (k := k) (by rw [HN.out]; exact hlt) (ordAt_no HX.out hp)))
        have CN := IsName_is hp w zx
        clear hp
        go_wp2_with ((go_at_call 56; refine (CN).mono ?_; rintro e w' ⟨rfl, rfl⟩))
        go_ret
        exact ⟨ret_int HF.out.symm, rfl⟩
      · have CN := IsName_is hp w zx
        by_cases h0 : k = 0
        · have HF := Lib.hid (ordTo_next hf.out (h0 ▸ ordAt_zero (h0 ▸ HX.out) hp))
          have dk : decide ((0 : Int) < k) = false := by simp; omega
          have dk' : decide (0 < k) = false := by simp; omega
          clear hp h0
          go_wp2_with ((go_at_call 56; refine (CN).mono ?_; rintro e w' ⟨rfl, rfl⟩))
          go_round
          case rel => exact ⟨k + 1, by omega, by go_num, HF⟩
          case measure => simp [intOf]; omega
        · obtain ⟨y, hy, hym⟩ := getD_of (l := ss) (i := k - 1) (by rw [HN.out]; omega)
          have HA := Lib.hid (ordAt_is (key := id) (by omega) HX.out hy hp)
          have d0 : w.cell? ⟨b, o + (k - 1), none⟩ = some (.string y) := HC.out (k - 1) y hy
          have e1 : IntKind.i64.wrap ((k : Int) - 1) = (k : Int) - 1 := IntWalk.i64_in _ (by omega)
          have e2 : ((k : Int) - 1).toNat = k - 1 := by omega
          have e3 : 1 ≤ (k : Int) := by omega
          have e4 : (k : Int) - 1 < n := by omega
          clear hp hy hym
          cases hl : lessB y x
          · have hl' : Op.bytesLess y.toList x.toList = false := hl
            have HF := Lib.hid (debtC_name (l := zs) (ordB_bad (p := nameB) (key := id) (k := k) (by rw [HN.out]; exact hlt) (HA.out.trans hl)))
            clear hl
            go_wp2_with ((go_at_call 56; refine (CN).mono ?_; rintro e w' ⟨rfl, rfl⟩))
            go_ret
            exact ⟨ret_int HF.out.symm, rfl⟩
          · have hl' : Op.bytesLess y.toList x.toList = true := hl
            have HF := Lib.hid (ordTo_next hf.out (HA.out.trans hl))
            clear hl
            go_wp2_with ((go_at_call 56; refine (CN).mono ?_; rintro e w' ⟨rfl, rfl⟩))
            go_round
            case rel => exact ⟨k + 1, by omega, by go_num, HF⟩
            case measure => simp [intOf]; omega
    · obtain rfl : k = n := by omega
      have NB : Hid (namesB ss = true) := Lib.hid (by unfold namesB; rw [HN.out]; exact hf.out)
      go_wp2
      go_loop [36, 7] (fun i s => ∃ (j : Nat) (q : Int), j ≤ m ∧ i = .int .i64 j ∧ s = .int .i64 q ∧ (-10000000 * (j : Int) ≤ q ∧ q ≤ 10000000 * (j : Int)) ∧ Hid (q = smTo zs j) ∧ Hid (rangeTo zs j = true)) (fun i _ => m - (intOf i).toNat)
      case atStart => exact ⟨0, 0, Nat.zero_le _, rfl, rfl, by omega, Lib.hid rfl, Lib.hid rfl⟩
      case round =>
        obtain ⟨j, q, hj, rfl, rfl, hq, HS, HR⟩ := hrel
        by_cases hlt2 : j < m
        · obtain ⟨z, hz, hzm⟩ := getD_of (l := zs) (i := j) (by rw [HM.out]; exact hlt2)
          obtain ⟨b, o, rfl, hbB, hc⟩ := H'.out.ints (by omega)
          have c0 : w.cell? ⟨b, o + j, none⟩ = some (.int .i64 z) := hc j z hz
          have hd := getDz hz
          clear hc hz hzm
          cases hi : inB z (-10000000) 10000000
          · have HF := Lib.hid (debtC_range NB.out (rangeTo_bad (k := j) (by rw [HM.out]; exact hlt2) (by rw [hd]; exact hi)))
            go_wp2_with ((go_at_call 36; refine (within_any _ _ _ _).mono ?_; rintro e w' ⟨rfl, rfl⟩))
            go_ret
            exact ⟨ret_int HF.out.symm, rfl⟩
          · have zb := inB_t hi
            have HS2 : Hid (q + z = smTo zs (j + 1)) := Lib.hid (by rw [smTo, hd, HS.out])
            have HR2 := Lib.hid (rangeTo_next HR.out (by rw [hd]; exact hi))
            clear hd
            go_wp2_with ((go_at_call 36; refine (within_any _ _ _ _).mono ?_; rintro e w' ⟨rfl, rfl⟩))
            go_round
            case rel => exact ⟨j + 1, q + z, by omega, by go_num, by go_num, by omega, HS2, HR2⟩
            case measure => simp [intOf]; omega
        · obtain rfl : j = m := by omega
          have RB : Hid (rangeTo zs zs.length = true) := Lib.hid (by rw [HM.out]; exact HR.out)
          have SB : Hid (q = sm zs) := Lib.hid (by rw [HS.out, ← HM.out, smTo_all])
          by_cases e1 : k = j
          · subst e1
            by_cases e2 : 16 < k
            · have HF := Lib.hid (debtC_order NB.out RB.out (by rw [HN.out]; omega))
              have f1 : decide ((k : Int) ≤ 16) = false := by simp; omega
              go_wp2_with ((go_at_call 57; refine (few_any _ _ _ (by omega)).mono ?_; rintro e w' ⟨rfl, rfl⟩))
              go_ret
              exact ⟨ret_int HF.out.symm, rfl⟩
            · have f1 : decide ((k : Int) ≤ 16) = true := by simp; omega
              by_cases e3 : q = 0
              · have HF := Lib.hid (debtC_ok NB.out RB.out (by rw [HN.out, HM.out]; omega) (by rw [← SB.out]; exact e3))
                subst e3
                go_wp2_with ((go_at_call 57; refine (few_any _ _ _ (by omega)).mono ?_; rintro e w' ⟨rfl, rfl⟩))
                go_ret
                exact ⟨ret_int HF.out.symm, rfl⟩
              · have HF := Lib.hid (debtC_state NB.out RB.out (by rw [HN.out, HM.out]; omega) (by rw [← SB.out]; exact e3))
                have e4 : (q == 0) = false := by simp; exact e3
                have e5 : (q != 0) = true := by simp; exact e3
                go_wp2_with ((go_at_call 57; refine (few_any _ _ _ (by omega)).mono ?_; rintro e w' ⟨rfl, rfl⟩))
                go_ret
                exact ⟨ret_int HF.out.symm, rfl⟩
          · have HF := Lib.hid (debtC_order NB.out RB.out (by rw [HN.out, HM.out]; omega))
            have e4 : ((k : Int) == j) = false := by simp; omega
            have e5 : ((k : Int) != j) = true := by simp; omega
            go_wp2_with ((go_at_call 57; refine (few_any _ _ _ (by omega)).mono ?_; rintro e w' ⟨rfl, rfl⟩))
            go_ret
            exact ⟨ret_int HF.out.symm, rfl⟩
end Go.Proofs.Ytednmmmnkcbpjaa
