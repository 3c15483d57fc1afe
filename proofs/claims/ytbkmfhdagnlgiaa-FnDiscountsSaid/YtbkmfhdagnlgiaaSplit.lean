/- SplitPrice. -/
import Derived.Test.YtbkmfhdagnlgiaaDisc
import Derived.Test.YtbkmfhdagnlgiaaApp
import Derived.Test.YtbkmfhdagnlgiaaNum
import Derived.Test.YtbkmfhdagnlgiaaOpen
set_option linter.unusedVariables false
namespace Go.Proofs.Ytbkmfhdagnlgiaa
open Go.RowKit

theorem mul_part {p s a : Int} (p0 : 0 ≤ p) (p1 : p ≤ 10000000) (s0 : 0 ≤ s) (s1 : s ≤ 12000) (a0 : 1 ≤ a) : 0 ≤ p * s ∧ p * s ≤ 120000000000 ∧ 0 ≤ p * s / a ∧ p * s / a ≤ 120000000000 := by
  have a := mul_bd p0 p1 s0 s1
  refine ⟨a.1, by omega, Int.ediv_nonneg a.1 (by omega), Int.le_trans (Int.ediv_le_self _ a.1) (by omega)⟩
/-- the sum as int64 makes it -/
def sumW (zs : List Int) : Nat → Int
  | 0 => 0
  | k + 1 => wrap64 (sumW zs k + zs.getD k 0)
theorem sumW_next {z : Int} {zs : List Int} {k : Nat} (hz : zs[k]? = some z) : sumW zs (k + 1) = wrap64 (sumW zs k + z) := by rw [sumW, getD_is hz]
theorem sumW_is {zs : List Int} (h : ∀ (k : Nat), k < zs.length → 0 ≤ zs.getD k 0 ∧ zs.getD k 0 ≤ 1000) (hn : zs.length ≤ 12) : ∀ k, k ≤ zs.length → sumW zs k = sumTo zs k
  | 0, _ => rfl
  | k + 1, hk => by
    have ih := sumW_is h hn k (by omega)
    have a := sumTo_bd h k (by omega)
    have b := h k (by omega)
    rw [sumW, sumTo, ih, IntWalk.wrap64_in _ (by omega)]
set_option maxHeartbeats 2000000 in
theorem SplitPrice_i (A : Option Addr) (c n : Nat) (p : Int) (zs : List Int) (w : World) (h : Rd w w.heap.size 1 A n (iv zs)) (hm : n ≤ 1048576) (hz : ∀ z ∈ zs, i64R z) :
    Calls Try.prog 39 #[.int .i64 p, .slice A n c] w (RetS 2 w (SplitPrice_L p zs).1 (SplitPrice_L p zs).2) := by
  have HN := Lib.hid h.len
  have H := Lib.hid h
  clear h hz
  cases g : inB p 0 10000000
  · rw [show SplitPrice_L p zs = ([], 2) by simp [SplitPrice_L, g]]
    go_enter Try.func39, Try.ntmps39
    go_wp2_with ((go_at_call 54; refine (isMoney_any _ _).mono ?_; rintro e w' ⟨rfl, rfl⟩))
    go_ret2
    exact ret_S rfl rfl (own_nil _ _ _) (Below.refl _ _)
  have q := inB_t g
  have HG := Lib.hid g
  go_enter Try.func39, Try.ntmps39
  go_wp2_with ((go_at_call 54; refine (isMoney_any _ _).mono ?_; rintro e w' ⟨rfl, rfl⟩))
  clear g
  go_loop [6, 20] (fun x i => ∃ k : Nat, k ≤ n ∧ x = .int .i64 (sumW zs k) ∧ i = .int .i64 k) (fun _ i => n - (intOf i).toNat)
  case atStart => exact ⟨0, Nat.zero_le _, rfl, rfl⟩
  case round =>
    obtain ⟨k, hk, rfl, rfl⟩ := hrel
    by_cases hlt : k < n
    · obtain ⟨z, hz, _⟩ := getD_of (l := zs) (i := k) (by rw [HN.out]; exact hlt)
      obtain ⟨b, o, rfl, hbB, hc⟩ := H.out.ints (by omega)
      have c0 : w.cell? ⟨b, o + k, none⟩ = some (.int .i64 z) := hc k z hz
      have HF := Lib.hid (sumW_next hz)
      clear hc hz
      go_wp2
      go_round
      case rel => exact ⟨k + 1, by omega, by rw [HF.out], by go_num⟩
      case measure => simp [intOf]; omega
    · obtain rfl : k = n := by omega
      cases hs : sharesB zs
      · have HF : Hid (SplitPrice_L p zs = ([], 7)) := Lib.hid (by simp [SplitPrice_L, HG.out, hs])
        go_wp2_with ((go_at_call 69; refine (areShares_any _ _ _ _ zs _ H.out hm).mono ?_; rintro e w' ⟨rfl, rfl⟩))
        go_ret2
        exact ret_S (zs := []) (congrArg Prod.fst HF.out) (congrArg Prod.snd HF.out) (own_nil _ _ _) (Below.refl _ _)
      have S := sharesB_t hs
      rw [HN.out] at S
      have n12 := S.1
      have HS := Lib.hid S.2
      have SW : sumW zs k = sumTo zs k := sumW_is (by rw [HN.out]; exact HS.out) (by rw [HN.out]; exact n12) k (by rw [HN.out]; omega)
      have HB : Hid (∀ j, j ≤ k → 0 ≤ sumTo zs j ∧ sumTo zs j ≤ 1000 * j) := Lib.hid (by have := sumTo_bd (zs := zs) (by rw [HN.out]; exact HS.out); rw [HN.out] at this; exact this)
      have sb := HB.out k (Nat.le_refl _)
      rw [SW]
      clear S SW
      by_cases h0 : sumTo zs k = 0
      · have HF : Hid (SplitPrice_L p zs = ([], 7)) := Lib.hid (by simp [SplitPrice_L, HG.out, hs, HN.out, h0])
        rw [h0]
        clear h0
        go_wp2_with ((go_at_call 69; refine (areShares_any _ _ _ _ zs _ H.out hm).mono ?_; rintro e w' ⟨rfl, rfl⟩))
        go_ret2
        exact ret_S (zs := []) (congrArg Prod.fst HF.out) (congrArg Prod.snd HF.out) (own_nil _ _ _) (Below.refl _ _)
      · have HF : Hid (SplitPrice_L p zs = (splitTo p (sumTo zs k) zs k, 0)) := Lib.hid (by simp only [SplitPrice_L, HG.out, hs, HN.out, if_true, if_neg h0])
        have HF0 := HF
        obtain ⟨a, ha⟩ : ∃ a, a = sumTo zs k := ⟨_, rfl⟩
        rw [← ha] at h0 sb HF0 ⊢
        have q0 : (a == 0) = false := by simpa using h0
        have q1 : (a != 0) = true := by simpa using h0
        have a1 : 1 ≤ a := by omega
        clear h0 ha
        have O0 := Lib.hid (own_empty w 2)
        have b0 := Lib.hid ((Below.refl w.heap.size w).alloc (Nat.le_refl _) (.cells #[] 2))
        go_wp2_with ((go_at_call 69; refine (areShares_any _ _ _ _ zs _ H.out hm).mono ?_; rintro e w' ⟨rfl, rfl⟩))
        clear hs
        generalize w.alloc (.cells #[] 2) = w0 at O0 b0 ⊢
        go_loopw [9, 10, 11, 38] (fun v s gv i wr => ∃ j : Nat, j ≤ k ∧ s = .int .i64 (sumTo zs j) ∧ gv = .int .i64 (p * sumTo zs j / a) ∧ i = .int .i64 j ∧ Hid (wr.ownsRow w.heap.size 2 1 v (splitTo p a zs j).length (iv (splitTo p a zs j))) ∧ Hid (Below w.heap.size w wr)) (fun _ _ _ i _ => k - (intOf i).toNat)
        case atStart => exact ⟨0, Nat.zero_le _, rfl, by simp [sumTo], rfl, O0, b0⟩
        case round =>
          obtain ⟨j, hj, rfl, rfl, rfl, hv, hb⟩ := hrel
          have hsz := hb.out.size
          by_cases hlt : j < k
          · obtain ⟨z, hz, _⟩ := getD_of (l := zs) (i := j) (by rw [HN.out]; exact hlt)
            obtain ⟨b, o, rfl, hbB, hc⟩ := (H.out.below hb.out).ints (by omega)
            have c0 : wr.cell? ⟨b, o + j, none⟩ = some (.int .i64 z) := hc j z hz
            have zb := HS.out j hlt
            rw [getD_is hz] at zb
            have s1 := HB.out j hj
            have HF := Lib.hid (sumTo_next hz)
            have s2 := HB.out (j + 1) hlt
            rw [HF.out] at s2
            have m1 := mul_part (s := sumTo zs j) q.1 q.2 s1.1 (by omega) a1
            have m2 := mul_part (s := sumTo zs j + z) q.1 q.2 (by omega) (by omega) a1
            have ll : (splitTo p a zs j).length ≤ 1099511627776 := by rw [splitTo_len]; omega
            clear hc hz
            go_wp2_with (at_builtin; refine app1 rfl (.tmp 50) (.tmp 54) rfl w.heap.size u9 (splitTo p a zs j) (p * (sumTo zs j + z) / a - p * sumTo zs j / a) rfl hv.out rfl hsz ll ?_; intro v1 w1 ho1 hb1)
            have V1 : Hid (w1.ownsRow w.heap.size 2 1 v1 (splitTo p a zs (j + 1)).length (iv (splitTo p a zs (j + 1)))) := Lib.hid (by rw [splitTo, HF.out]; exact ho1)
            have b1 := Lib.hid (hb.out.trans hb1)
            clear ho1 hb1
            go_roundw
            case rel => exact ⟨j + 1, by omega, by rw [HF.out], by rw [HF.out], by go_num, V1, b1⟩
            case measure => simp [intOf]; omega
          · obtain rfl : j = k := by omega
            go_wp2
            go_ret2
            exact ret_S (congrArg Prod.fst HF0.out) (congrArg Prod.snd HF0.out) hv.out hb.out
set_option maxHeartbeats 2000000 in
theorem SplitPrice_s (A : Option Addr) (c n : Nat) (p : Int) (zs : List Int) (w : World) (h : Rd w w.heap.size 1 A n (iv zs)) (hm : n ≤ 1048576) (hz : ∀ z ∈ zs, i64R z) :
    Calls Try.prog 38 #[.int .i64 p, .slice A n c] w (RetS 2 w (SplitPrice_L p zs).1 (SplitPrice_L p zs).2) := by
  have HN := Lib.hid h.len
  have H := Lib.hid h
  clear h hz
  cases g : inB p 0 10000000
  · rw [show SplitPrice_L p zs = ([], 2) by simp [SplitPrice_L, g]]
    go_enter Try.func38, Try.ntmps38
    go_wp2_with ((go_at_call 52; refine (l21Money_any _ _).mono ?_; rintro e w' ⟨rfl, rfl⟩))
    go_ret2
    exact ret_S rfl rfl (own_nil _ _ _) (Below.refl _ _)
  have q := inB_t g
  have HG := Lib.hid g
  go_enter Try.func38, Try.ntmps38
  go_wp2_with ((go_at_call 52; refine (l21Money_any _ _).mono ?_; rintro e w' ⟨rfl, rfl⟩))
  clear g
  go_loop [6, 7] (fun x i => ∃ k : Nat, k ≤ n ∧ x = .int .i64 (sumTo zs k) ∧ i = .int .i64 k ∧ 0 ≤ sumTo zs k ∧ sumTo zs k ≤ 1000 * k ∧ Hid (shTo zs k = true)) (fun _ i => n - (intOf i).toNat)
  case atStart => exact ⟨0, Nat.zero_le _, rfl, rfl, by simp [sumTo], by simp [sumTo], Lib.hid rfl⟩
  case round =>
    obtain ⟨k, hk, rfl, rfl, s0, s1, hf⟩ := hrel
    by_cases hlt : k < n
    · obtain ⟨z, hz, _⟩ := getD_of (l := zs) (i := k) (by rw [HN.out]; exact hlt)
      obtain ⟨b, o, rfl, hbB, hc⟩ := H.out.ints (by omega)
      have c0 : w.cell? ⟨b, o + k, none⟩ = some (.int .i64 z) := hc k z hz
      have HZ := Lib.hid hz
      clear hc hz
      cases hv : inB z 0 1000
      · have HF : Hid (SplitPrice_L p zs = ([], 7)) := Lib.hid (by simp [SplitPrice_L, HG.out, sharesB_bad HZ.out hv])
        go_wp2_with ((go_at_call 53; refine (l21Share_any _ _).mono ?_; rintro e w' ⟨rfl, rfl⟩))
        go_ret2
        exact ret_S (zs := []) (congrArg Prod.fst HF.out) (congrArg Prod.snd HF.out) (own_nil _ _ _) (Below.refl _ _)
      · have HF := Lib.hid (shTo_next hf.out HZ.out hv)
        have zb := inB_t hv
        have HX := Lib.hid (sumTo_next HZ.out)
        go_wp2_with ((go_at_call 53; refine (l21Share_any _ _).mono ?_; rintro e w' ⟨rfl, rfl⟩))
        go_round
        case rel => exact ⟨k + 1, by omega, by rw [HX.out], by go_num, by rw [HX.out]; omega, by rw [HX.out]; push_cast; omega, HF⟩
        case measure => simp [intOf]; omega
    · obtain rfl : k = n := by omega
      have HE := Lib.hid (sharesB_end HN.out hf.out)
      by_cases h12 : k ≤ 12
      · have hs : sharesB zs = true := by rw [HE.out]; simpa using h12
        have S := sharesB_t hs
        rw [HN.out] at S
        have HS := Lib.hid S.2
        have HB : Hid (∀ j, j ≤ k → 0 ≤ sumTo zs j ∧ sumTo zs j ≤ 1000 * j) := Lib.hid (by have := sumTo_bd (zs := zs) (by rw [HN.out]; exact HS.out); rw [HN.out] at this; exact this)
        have sb := HB.out k (Nat.le_refl _)
        clear S
        by_cases h0 : sumTo zs k = 0
        · have HF : Hid (SplitPrice_L p zs = ([], 7)) := Lib.hid (by simp [SplitPrice_L, HG.out, hs, HN.out, h0])
          rw [h0]
          clear h0 hs
          go_wp2
          go_ret2
          exact ret_S (zs := []) (congrArg Prod.fst HF.out) (congrArg Prod.snd HF.out) (own_nil _ _ _) (Below.refl _ _)
        · have HF : Hid (SplitPrice_L p zs = (splitTo p (sumTo zs k) zs k, 0)) := Lib.hid (by simp only [SplitPrice_L, HG.out, hs, HN.out, if_true, if_neg h0])
          have HF0 := HF
          obtain ⟨a, ha⟩ : ∃ a, a = sumTo zs k := ⟨_, rfl⟩
          rw [← ha] at h0 sb s0 s1 HF0 ⊢
          have q0 : (a == 0) = false := by simpa using h0
          have q1 : (a != 0) = true := by simpa using h0
          have a1 : 1 ≤ a := by omega
          clear h0 ha hs
          have O0 := Lib.hid (own_empty w 2)
          have b0 := Lib.hid ((Below.refl w.heap.size w).alloc (Nat.le_refl _) (.cells #[] 2))
          go_wp2
          generalize w.alloc (.cells #[] 2) = w0 at O0 b0 ⊢
          go_loopw [8, 9, 10] (fun v s i wr => ∃ j : Nat, j ≤ k ∧ s = .int .i64 (sumTo zs j) ∧ i = .int .i64 j ∧ Hid (wr.ownsRow w.heap.size 2 1 v (splitTo p a zs j).length (iv (splitTo p a zs j))) ∧ Hid (Below w.heap.size w wr)) (fun _ _ i _ => k - (intOf i).toNat)
          case atStart => exact ⟨0, Nat.zero_le _, rfl, rfl, O0, b0⟩
          case round =>
            obtain ⟨j, hj, rfl, rfl, hv, hb⟩ := hrel
            have hsz := hb.out.size
            by_cases hlt : j < k
            · obtain ⟨z, hz, _⟩ := getD_of (l := zs) (i := j) (by rw [HN.out]; exact hlt)
              obtain ⟨b, o, rfl, hbB, hc⟩ := (H.out.below hb.out).ints (by omega)
              have c0 : wr.cell? ⟨b, o + j, none⟩ = some (.int .i64 z) := hc j z hz
              have zb := HS.out j hlt
              rw [getD_is hz] at zb
              have s1 := HB.out j hj
              have HF := Lib.hid (sumTo_next hz)
              have s2 := HB.out (j + 1) hlt
              rw [HF.out] at s2
              have m1 := mul_part (s := sumTo zs j) q.1 q.2 s1.1 (by omega) a1
              have m2 := mul_part (s := sumTo zs j + z) q.1 q.2 (by omega) (by omega) a1
              have ll : (splitTo p a zs j).length ≤ 1099511627776 := by rw [splitTo_len]; omega
              clear hc hz
              go_wp2_with (at_builtin; refine app1 rfl (.tmp 58) (.tmp 66) rfl w.heap.size u8 (splitTo p a zs j) (p * (sumTo zs j + z) / a - p * sumTo zs j / a) rfl hv.out rfl hsz ll ?_; intro v1 w1 ho1 hb1)
              have V1 : Hid (w1.ownsRow w.heap.size 2 1 v1 (splitTo p a zs (j + 1)).length (iv (splitTo p a zs (j + 1)))) := Lib.hid (by rw [splitTo, HF.out]; exact ho1)
              have b1 := Lib.hid (hb.out.trans hb1)
              clear ho1 hb1
              go_roundw
              case rel => exact ⟨j + 1, by omega, by rw [HF.out], by go_num, V1, b1⟩
              case measure => simp [intOf]; omega
            · obtain rfl : j = k := by omega
              go_wp2
              go_ret2
              exact ret_S (congrArg Prod.fst HF0.out) (congrArg Prod.snd HF0.out) hv.out hb.out
      · have HF : Hid (SplitPrice_L p zs = ([], 7)) := Lib.hid (by simp [SplitPrice_L, HG.out, HE.out, h12])
        go_wp2
        go_ret2
        exact ret_S (zs := []) (congrArg Prod.fst HF.out) (congrArg Prod.snd HF.out) (own_nil _ _ _) (Below.refl _ _)
end Go.Proofs.Ytbkmfhdagnlgiaa
