/- AfterDiscounts, SplitPrice. -/
import Derived.Test.YtbkmfhdagnlgiaaDiscP
import Derived.Test.YtbkmfhdagnlgiaaApp
import Derived.Test.YtbkmfhdagnlgiaaNum
import Derived.Test.YtbkmfhdagnlgiaaOpen
set_option linter.unusedVariables false
namespace Go.Proofs.Ytbkmfhdagnlgiaa
open Go.RowKit

theorem ret_S {t : TypeId} {w w' : World} {v : Value} {zs zs' : List Int} {code code' : Int} (hz : zs' = zs) (hc : code' = code) (ho : w'.ownsRow w.heap.size t 1 v zs.length (iv zs)) (hb : Below w.heap.size w w') : RetS t w zs' code' (.returned (.tuple #[v, .int .i64 code])) w' := by
  subst hz hc; exact ⟨v, rfl, ho, hb⟩
theorem own_nil (w : World) (L : Nat) (t : TypeId) : w.ownsRow L t 1 (.slice none 0 0) ([] : List Int).length (iv []) := World.ownsRow_nil w L t 1
theorem ret_pr {a b c d : Int} (h : a = c) (g : b = d) : Ending.returned (.tuple #[.int .i64 a, .int .i64 b]) = .returned (.tuple #[.int .i64 c, .int .i64 d]) := by rw [h, g]
set_option maxHeartbeats 1000000 in
theorem areShares_any (A : Option Addr) (c n B : Nat) (zs : List Int) (w : World) (h : Rd w B 1 A n (iv zs)) (hm : n ≤ 1048576) :
    Calls Try.prog 69 #[.slice A n c] w fun e w' => e = .returned (.bool (sharesB zs)) ∧ w = w' := by
  have HN := Lib.hid h.len
  have H := Lib.hid h
  clear h
  go_enter Try.func69, Try.ntmps69
  go_wp2
  go_loop [7] (fun i => ∃ k : Nat, k ≤ n ∧ i = .int .i64 k ∧ Hid (shTo zs k = true)) (fun i => n - (intOf i).toNat)
  case atStart => exact ⟨0, Nat.zero_le _, rfl, Lib.hid rfl⟩
  case round =>
    obtain ⟨k, hk, rfl, hf⟩ := hrel
    by_cases hlt : k < n
    · obtain ⟨z, hz, _⟩ := getD_of (l := zs) (i := k) (by rw [HN.out]; exact hlt)
      obtain ⟨b, o, rfl, hbB, hc⟩ := H.out.ints (by omega)
      have c0 : w.cell? ⟨b, o + k, none⟩ = some (.int .i64 z) := hc k z hz
      have HZ := Lib.hid hz
      clear hc hz
      cases hv : inB z 0 1000
      · have HF := Lib.hid (sharesB_bad HZ.out hv)
        go_wp2_with ((go_at_call 55; refine (isShare_any _ _).mono ?_; rintro e w' ⟨rfl, rfl⟩))
        go_ret
        exact ⟨ret_bool HF.out.symm, rfl⟩
      · have HF := Lib.hid (shTo_next hf.out HZ.out hv)
        go_wp2_with ((go_at_call 55; refine (isShare_any _ _).mono ?_; rintro e w' ⟨rfl, rfl⟩))
        go_round
        case rel => exact ⟨k + 1, by omega, by go_num, HF⟩
        case measure => simp [intOf]; omega
    · obtain rfl : k = n := by omega
      have HF := Lib.hid (sharesB_end HN.out hf.out)
      go_wp2_with ((go_at_call 75; refine (few_any _ _ _ (by omega)).mono ?_; rintro e w' ⟨rfl, rfl⟩))
      go_ret
      exact ⟨ret_bool (by rw [HF.out]; simp; omega), rfl⟩
set_option maxHeartbeats 1000000 in
theorem AfterDiscounts_i (A : Option Addr) (c n : Nat) (p : Int) (zs : List Int) (w : World) (h : Rd w w.heap.size 1 A n (iv zs)) (hm : n ≤ 1048576) (hz : ∀ z ∈ zs, i64R z) :
    Calls Try.prog 36 #[.int .i64 p, .slice A n c] w fun e w' => e = .returned (.tuple #[.int .i64 (AfterDiscounts_L p zs).1, .int .i64 (AfterDiscounts_L p zs).2]) ∧ Below w.heap.size w w' := by
  have HN := Lib.hid h.len
  have H := Lib.hid h
  clear h hz
  cases g : inB p 0 10000000
  · rw [show AfterDiscounts_L p zs = (0, 2) by simp [AfterDiscounts_L, g]]
    go_enter Try.func36, Try.ntmps36
    go_wp2_with ((go_at_call 54; refine (isMoney_any _ _).mono ?_; rintro e w' ⟨rfl, rfl⟩))
    go_ret2
    exact ⟨rfl, Below.refl _ _⟩
  cases hs : sharesB zs
  · rw [show AfterDiscounts_L p zs = (0, 7) by simp [AfterDiscounts_L, g, hs]]
    go_enter Try.func36, Try.ntmps36
    go_wp2_with (first | (go_at_call 54; refine (isMoney_any _ _).mono ?_; rintro e w' ⟨rfl, rfl⟩) | (go_at_call 69; refine (areShares_any _ _ _ _ zs _ H.out hm).mono ?_; rintro e w' ⟨rfl, rfl⟩))
    go_ret2
    exact ⟨rfl, Below.refl _ _⟩
  · rw [show AfterDiscounts_L p zs = (discTo p zs n, 0) by simp [AfterDiscounts_L, g, hs, HN.out]]
    have q := inB_t g
    have S := sharesB_t hs
    rw [HN.out] at S
    have n12 := S.1
    have HS := Lib.hid S.2
    have HD : Hid (∀ k, k ≤ n → 0 ≤ discTo p zs k ∧ discTo p zs k ≤ p) := Lib.hid (by have := discTo_bd (zs := zs) q.1 (by rw [HN.out]; exact HS.out); rw [HN.out] at this; exact this)
    clear S
    go_enter Try.func36, Try.ntmps36
    go_wp2_with (first | (go_at_call 54; refine (isMoney_any _ _).mono ?_; rintro e w' ⟨rfl, rfl⟩) | (go_at_call 69; refine (areShares_any _ _ _ _ zs _ H.out hm).mono ?_; rintro e w' ⟨rfl, rfl⟩))
    clear hs g
    go_loop [0, 16] (fun x i => ∃ k : Nat, k ≤ n ∧ x = .int .i64 (discTo p zs k) ∧ i = .int .i64 k) (fun _ i => n - (intOf i).toNat)
    case atStart => exact ⟨0, Nat.zero_le _, rfl, rfl⟩
    case round =>
      obtain ⟨k, hk, rfl, rfl⟩ := hrel
      by_cases hlt : k < n
      · obtain ⟨z, hz, _⟩ := getD_of (l := zs) (i := k) (by rw [HN.out]; exact hlt)
        obtain ⟨b, o, rfl, hbB, hc⟩ := H.out.ints (by omega)
        have c0 : w.cell? ⟨b, o + k, none⟩ = some (.int .i64 z) := hc k z hz
        have zb := HS.out k hlt
        rw [getD_is hz] at zb
        have db := HD.out k hk
        have st := disc_step db.1 db.2 zb.1 zb.2
        have HF := Lib.hid (discTo_next (p := p) hz)
        clear hc hz
        go_wp2
        go_round
        case rel => exact ⟨k + 1, by omega, by rw [HF.out], by go_num⟩
        case measure => simp [intOf]; omega
      · obtain rfl : k = n := by omega
        go_wp2
        go_ret2
        exact ⟨rfl, Below.refl _ _⟩
set_option maxHeartbeats 1000000 in
theorem AfterDiscounts_s (A : Option Addr) (c n : Nat) (p : Int) (zs : List Int) (w : World) (h : Rd w w.heap.size 1 A n (iv zs)) (hm : n ≤ 1048576) (hz : ∀ z ∈ zs, i64R z) :
    Calls Try.prog 34 #[.int .i64 p, .slice A n c] w fun e w' => e = .returned (.tuple #[.int .i64 (AfterDiscounts_L p zs).1, .int .i64 (AfterDiscounts_L p zs).2]) ∧ Below w.heap.size w w' := by
  have HN := Lib.hid h.len
  have H := Lib.hid h
  clear h hz
  cases g : inB p 0 10000000
  · rw [show AfterDiscounts_L p zs = (0, 2) by simp [AfterDiscounts_L, g]]
    go_enter Try.func34, Try.ntmps34
    go_wp2_with ((go_at_call 52; refine (l21Money_any _ _).mono ?_; rintro e w' ⟨rfl, rfl⟩))
    go_ret2
    exact ⟨rfl, Below.refl _ _⟩
  have q := inB_t g
  have HG := Lib.hid g
  go_enter Try.func34, Try.ntmps34
  go_wp2_with ((go_at_call 52; refine (l21Money_any _ _).mono ?_; rintro e w' ⟨rfl, rfl⟩))
  clear g
  go_loop [6] (fun i => ∃ k : Nat, k ≤ n ∧ i = .int .i64 k ∧ Hid (shTo zs k = true)) (fun i => n - (intOf i).toNat)
  case atStart => exact ⟨0, Nat.zero_le _, rfl, Lib.hid rfl⟩
  case round =>
    obtain ⟨k, hk, rfl, hf⟩ := hrel
    by_cases hlt : k < n
    · obtain ⟨z, hz, _⟩ := getD_of (l := zs) (i := k) (by rw [HN.out]; exact hlt)
      obtain ⟨b, o, rfl, hbB, hc⟩ := H.out.ints (by omega)
      have c0 : w.cell? ⟨b, o + k, none⟩ = some (.int .i64 z) := hc k z hz
      have HZ := Lib.hid hz
      clear hc hz
      cases hv : inB z 0 1000
      · have HF : Hid (AfterDiscounts_L p zs = (0, 7)) := Lib.hid (by simp [AfterDiscounts_L, HG.out, sharesB_bad HZ.out hv])
        go_wp2_with ((go_at_call 53; refine (l21Share_any _ _).mono ?_; rintro e w' ⟨rfl, rfl⟩))
        go_ret2
        exact ⟨ret_pr (by rw [HF.out]) (by rw [HF.out]), Below.refl _ _⟩
      · have HF := Lib.hid (shTo_next hf.out HZ.out hv)
        go_wp2_with ((go_at_call 53; refine (l21Share_any _ _).mono ?_; rintro e w' ⟨rfl, rfl⟩))
        go_round
        case rel => exact ⟨k + 1, by omega, by go_num, HF⟩
        case measure => simp [intOf]; omega
    · obtain rfl : k = n := by omega
      have HE := Lib.hid (sharesB_end HN.out hf.out)
      by_cases h12 : k ≤ 12
      · have hs : sharesB zs = true := by rw [HE.out]; simpa using h12
        have HF : Hid (AfterDiscounts_L p zs = (discTo p zs k, 0)) := Lib.hid (by simp [AfterDiscounts_L, HG.out, hs, HN.out])
        have S := sharesB_t hs
        rw [HN.out] at S
        have HS := Lib.hid S.2
        have HD : Hid (∀ j, j ≤ k → 0 ≤ discTo p zs j ∧ discTo p zs j ≤ p) := Lib.hid (by have := discTo_bd (zs := zs) q.1 (by rw [HN.out]; exact HS.out); rw [HN.out] at this; exact this)
        clear S hs
        go_wp2
        go_loop [0, 7] (fun x i => ∃ j : Nat, j ≤ k ∧ x = .int .i64 (discTo p zs j) ∧ i = .int .i64 j) (fun _ i => k - (intOf i).toNat)
        case atStart => exact ⟨0, Nat.zero_le _, rfl, rfl⟩
        case round =>
          obtain ⟨j, hj, rfl, rfl⟩ := hrel
          by_cases hlt : j < k
          · obtain ⟨z, hz, _⟩ := getD_of (l := zs) (i := j) (by rw [HN.out]; exact hlt)
            obtain ⟨b, o, rfl, hbB, hc⟩ := H.out.ints (by omega)
            have c0 : w.cell? ⟨b, o + j, none⟩ = some (.int .i64 z) := hc j z hz
            have zb := HS.out j hlt
            rw [getD_is hz] at zb
            have db := HD.out j hj
            have st := disc_step db.1 db.2 zb.1 zb.2
            have HF := Lib.hid (discTo_next (p := p) hz)
            clear hc hz
            go_wp2
            go_round
            case rel => exact ⟨j + 1, by omega, by rw [HF.out], by go_num⟩
            case measure => simp [intOf]; omega
          · obtain rfl : j = k := by omega
            go_wp2
            go_ret2
            exact ⟨ret_pr (by rw [HF.out]) (by rw [HF.out]), Below.refl _ _⟩
      · have HF : Hid (AfterDiscounts_L p zs = (0, 7)) := Lib.hid (by simp [AfterDiscounts_L, HG.out, HE.out, h12])
        go_wp2
        go_ret2
        exact ⟨ret_pr (by rw [HF.out]) (by rw [HF.out]), Below.refl _ _⟩
end Go.Proofs.Ytbkmfhdagnlgiaa
