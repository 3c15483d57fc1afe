/- Contracts of SellerGets, PriceToGet, MonthsToBuy: the program's and the reference's return the same plain function. -/
import Derived.Test.YtbkmfhdagnlgiaaNum
set_option linter.unusedVariables false
namespace Go.Proofs.Ytbkmfhdagnlgiaa
open Go.RowKit

theorem ret_pair {a b c d : Int} (h : a = c) (g : b = d) : Ending.returned (.tuple #[.int .i64 a, .int .i64 b]) = .returned (.tuple #[.int .i64 c, .int .i64 d]) := by rw [h, g]
def ok3 (a b c : Int) : Bool := inB a 0 10000000 && (inB b 0 1000 && inB c 0 10000000)
theorem ok3_a {a b c : Int} (h : inB a 0 10000000 = false) : ok3 a b c = false := by simp [ok3, h]
theorem ok3_b {a b c : Int} (h : inB b 0 1000 = false) : ok3 a b c = false := by simp [ok3, h]
theorem ok3_c {a b c : Int} (h : inB c 0 10000000 = false) : ok3 a b c = false := by simp [ok3, h]
theorem ok3_t {a b c : Int} (h : inB a 0 10000000 = true) (g : inB b 0 1000 = true) (k : inB c 0 10000000 = true) : ok3 a b c = true := by simp [ok3, h, g, k]
def sgL (p s l : Int) : Int × Int := if ok3 p s l = true then (getsL p s l, 0) else (0, 2)

theorem SellerGets_i (p s l : Int) (w : World) :
    Calls Try.prog 22 #[.int .i64 p, .int .i64 s, .int .i64 l] w fun e w' => e = .returned (.tuple #[.int .i64 (sgL p s l).1, .int .i64 (sgL p s l).2]) ∧ w = w' := by
  cases h1 : inB p 0 10000000
  · simp only [sgL, ok3_a h1]
    go_enter Try.func22, Try.ntmps22
    go_wp2_with (go_at_call 54; refine (isMoney_any _ _).mono ?_; rintro e w' ⟨rfl, rfl⟩)
    go_ret2
    exact ⟨rfl, rfl⟩
  cases h2 : inB s 0 1000
  · simp only [sgL, ok3_b h2]
    go_enter Try.func22, Try.ntmps22
    go_wp2_with (first | (go_at_call 54; refine (isMoney_any _ _).mono ?_; rintro e w' ⟨rfl, rfl⟩) | (go_at_call 55; refine (isShare_any _ _).mono ?_; rintro e w' ⟨rfl, rfl⟩))
    go_ret2
    exact ⟨rfl, rfl⟩
  cases h3 : inB l 0 10000000
  · simp only [sgL, ok3_c h3]
    go_enter Try.func22, Try.ntmps22
    go_wp2_with (first | (go_at_call 54; refine (isMoney_any _ _).mono ?_; rintro e w' ⟨rfl, rfl⟩) | (go_at_call 55; refine (isShare_any _ _).mono ?_; rintro e w' ⟨rfl, rfl⟩))
    go_ret2
    exact ⟨rfl, rfl⟩
  · simp only [sgL, ok3_t h1 h2 h3]
    have b1 := inB_t h1
    have b2 := inB_t h2
    have b3 := inB_t h3
    go_enter Try.func22, Try.ntmps22
    go_wp2_with (first | (go_at_call 54; refine (isMoney_any _ _).mono ?_; rintro e w' ⟨rfl, rfl⟩) | (go_at_call 55; refine (isShare_any _ _).mono ?_; rintro e w' ⟨rfl, rfl⟩) | (go_at_call 57; refine (sellerGets_any _ _ _ _ b1.1 b1.2 b2.1 b2.2 b3.1 b3.2).mono ?_; rintro e w' ⟨rfl, rfl⟩))
    go_ret2
    exact ⟨rfl, rfl⟩
theorem SellerGets_s (p s l : Int) (w : World) :
    Calls Try.prog 21 #[.int .i64 p, .int .i64 s, .int .i64 l] w fun e w' => e = .returned (.tuple #[.int .i64 (sgL p s l).1, .int .i64 (sgL p s l).2]) ∧ w = w' := by
  cases h1 : inB p 0 10000000
  · simp only [sgL, ok3_a h1]
    go_enter Try.func21, Try.ntmps21
    go_wp2_with (go_at_call 52; refine (l21Money_any _ _).mono ?_; rintro e w' ⟨rfl, rfl⟩)
    go_ret2
    exact ⟨rfl, rfl⟩
  cases h2 : inB s 0 1000
  · simp only [sgL, ok3_b h2]
    go_enter Try.func21, Try.ntmps21
    go_wp2_with (first | (go_at_call 52; refine (l21Money_any _ _).mono ?_; rintro e w' ⟨rfl, rfl⟩) | (go_at_call 53; refine (l21Share_any _ _).mono ?_; rintro e w' ⟨rfl, rfl⟩))
    go_ret2
    exact ⟨rfl, rfl⟩
  cases h3 : inB l 0 10000000
  · simp only [sgL, ok3_c h3]
    go_enter Try.func21, Try.ntmps21
    go_wp2_with (first | (go_at_call 52; refine (l21Money_any _ _).mono ?_; rintro e w' ⟨rfl, rfl⟩) | (go_at_call 53; refine (l21Share_any _ _).mono ?_; rintro e w' ⟨rfl, rfl⟩))
    go_ret2
    exact ⟨rfl, rfl⟩
  · simp only [sgL, ok3_t h1 h2 h3]
    have b1 := inB_t h1
    have b2 := inB_t h2
    have b3 := inB_t h3
    go_enter Try.func21, Try.ntmps21
    go_wp2_with (first | (go_at_call 52; refine (l21Money_any _ _).mono ?_; rintro e w' ⟨rfl, rfl⟩) | (go_at_call 53; refine (l21Share_any _ _).mono ?_; rintro e w' ⟨rfl, rfl⟩) | (go_at_call 56; refine (l24Gets_any _ _ _ _ b1.1 b1.2 b2.1 b2.2 b3.1 b3.2).mono ?_; rintro e w' ⟨rfl, rfl⟩))
    go_ret2
    exact ⟨rfl, rfl⟩

def mtbP (fee value share : Int) (k : Int) : Bool := decide (value ≤ share * k * fee / 1000)
def mtbR : Option Int → Int × Int
  | some k => (k, 0)
  | none => (0, 3)
def ok3' (a b c : Int) : Bool := inB a 0 10000000 && (inB b 0 10000000 && inB c 0 1000)
def mtbL (fee value share : Int) : Int × Int := if ok3' fee value share = true then mtbR (firstN (mtbP fee value share) 0 121) else (0, 2)
theorem ok3'_a {a b c : Int} (h : inB a 0 10000000 = false) : ok3' a b c = false := by simp [ok3', h]
theorem ok3'_b {a b c : Int} (h : inB b 0 10000000 = false) : ok3' a b c = false := by simp [ok3', h]
theorem ok3'_c {a b c : Int} (h : inB c 0 1000 = false) : ok3' a b c = false := by simp [ok3', h]
theorem ok3'_t {a b c : Int} (h : inB a 0 10000000 = true) (g : inB b 0 10000000 = true) (k : inB c 0 1000 = true) : ok3' a b c = true := by simp [ok3', h, g, k]
theorem mtb_t {f v s : Int} {k : Nat} (hk : k < 121) (h : v ≤ s * k * f / 1000) (hf : firstN (mtbP f v s) 0 121 = firstN (mtbP f v s) k (121 - k)) : mtbR (firstN (mtbP f v s) 0 121) = ((k : Int), 0) := by
  rw [hf, firstN_t hk (by simpa [mtbP] using h)]; rfl
theorem mtb_f {f v s : Int} {k : Nat} (hk : k < 121) (h : ¬ v ≤ s * k * f / 1000) (hf : firstN (mtbP f v s) 0 121 = firstN (mtbP f v s) k (121 - k)) : firstN (mtbP f v s) 0 121 = firstN (mtbP f v s) (k + 1) (121 - (k + 1)) := by
  rw [hf, firstN_f hk (by simpa [mtbP] using h)]
theorem mtb_n {f v s : Int} {k : Nat} (hk : ¬ k < 121) (hf : firstN (mtbP f v s) 0 121 = firstN (mtbP f v s) k (121 - k)) : mtbR (firstN (mtbP f v s) 0 121) = (0, 3) := by
  rw [hf, show 121 - k = 0 by omega]; rfl
theorem fstEq {a : Int × Int} {b c : Int} (h : a = (b, c)) : a.1 = b := by rw [h]
theorem sndEq {a : Int × Int} {b c : Int} (h : a = (b, c)) : a.2 = c := by rw [h]
theorem ret_of {r : Int × Int} {b c : Int} (h : r = (b, c)) : Ending.returned (.tuple #[.int .i64 b, .int .i64 c]) = .returned (.tuple #[.int .i64 r.1, .int .i64 r.2]) := by rw [h]

theorem MonthsToBuy_i (f v s : Int) (w : World) :
    Calls Try.prog 20 #[.int .i64 f, .int .i64 v, .int .i64 s] w fun e w' => e = .returned (.tuple #[.int .i64 (mtbL f v s).1, .int .i64 (mtbL f v s).2]) ∧ w = w' := by
  cases h1 : inB f 0 10000000
  · simp only [mtbL, ok3'_a h1]
    go_enter Try.func20, Try.ntmps20
    go_wp2_with (go_at_call 54; refine (isMoney_any _ _).mono ?_; rintro e w' ⟨rfl, rfl⟩)
    go_ret2
    exact ⟨rfl, rfl⟩
  cases h2 : inB v 0 10000000
  · simp only [mtbL, ok3'_b h2]
    go_enter Try.func20, Try.ntmps20
    go_wp2_with (go_at_call 54; refine (isMoney_any _ _).mono ?_; rintro e w' ⟨rfl, rfl⟩)
    go_ret2
    exact ⟨rfl, rfl⟩
  cases h3 : inB s 0 1000
  · simp only [mtbL, ok3'_c h3]
    go_enter Try.func20, Try.ntmps20
    go_wp2_with (first | (go_at_call 54; refine (isMoney_any _ _).mono ?_; rintro e w' ⟨rfl, rfl⟩) | (go_at_call 55; refine (isShare_any _ _).mono ?_; rintro e w' ⟨rfl, rfl⟩))
    go_ret2
    exact ⟨rfl, rfl⟩
  · simp only [mtbL, ok3'_t h1 h2 h3, if_true]
    have b1 := inB_t h1
    have b2 := inB_t h2
    have b3 := inB_t h3
    go_enter Try.func20, Try.ntmps20
    go_wp2_with (first | (go_at_call 54; refine (isMoney_any _ _).mono ?_; rintro e w' ⟨rfl, rfl⟩) | (go_at_call 55; refine (isShare_any _ _).mono ?_; rintro e w' ⟨rfl, rfl⟩))
    clear h1 h2 h3
    go_loop [8] (fun i => ∃ k : Nat, k ≤ 121 ∧ i = .int .i64 k ∧ Hid (firstN (mtbP f v s) 0 121 = firstN (mtbP f v s) k (121 - k))) (fun i => 121 - (intOf i).toNat)
    case atStart => exact ⟨0, by omega, rfl, Lib.hid rfl⟩
    case round =>
      obtain ⟨k, hk, rfl, hf⟩ := hrel
      by_cases hlt : k < 121
      · have e3 : s * k * f = f * k * s := by rw [Int.mul_comm s, Int.mul_comm _ f, Int.mul_assoc]
        obtain ⟨p0, p1⟩ := mul_bd b3.1 b3.2 (show (0 : Int) ≤ k by omega) (show (k : Int) ≤ 121 by omega)
        obtain ⟨q0, q1⟩ := mul_bd p0 p1 b1.1 b1.2
        obtain ⟨p0', p1'⟩ := mul_bd b1.1 b1.2 (show (0 : Int) ≤ k by omega) (show (k : Int) ≤ 121 by omega)
        obtain ⟨q0', q1'⟩ := mul_bd p0' p1' b3.1 b3.2
        have E3 := Lib.hid e3
        clear e3
        by_cases hc : v ≤ s * k * f / 1000
        · go_wp2
          go_ret2
          refine ⟨ret_of (mtb_t hlt ?_ hf.out), rfl⟩
          first | exact hc | (rw [E3.out]; exact hc)
        · have HF := Lib.hid (mtb_f hlt (by first | exact hc | (rw [E3.out]; exact hc)) hf.out)
          go_wp2
          go_round
          case rel => exact ⟨k + 1, by omega, by go_num, HF⟩
          case measure => simp [intOf]; omega
      · go_wp2
        go_ret2
        exact ⟨ret_of (mtb_n hlt hf.out), rfl⟩
theorem MonthsToBuy_s (f v s : Int) (w : World) :
    Calls Try.prog 19 #[.int .i64 f, .int .i64 v, .int .i64 s] w fun e w' => e = .returned (.tuple #[.int .i64 (mtbL f v s).1, .int .i64 (mtbL f v s).2]) ∧ w = w' := by
  cases h1 : inB f 0 10000000
  · simp only [mtbL, ok3'_a h1]
    go_enter Try.func19, Try.ntmps19
    go_wp2_with (go_at_call 52; refine (l21Money_any _ _).mono ?_; rintro e w' ⟨rfl, rfl⟩)
    go_ret2
    exact ⟨rfl, rfl⟩
  cases h2 : inB v 0 10000000
  · simp only [mtbL, ok3'_b h2]
    go_enter Try.func19, Try.ntmps19
    go_wp2_with (go_at_call 52; refine (l21Money_any _ _).mono ?_; rintro e w' ⟨rfl, rfl⟩)
    go_ret2
    exact ⟨rfl, rfl⟩
  cases h3 : inB s 0 1000
  · simp only [mtbL, ok3'_c h3]
    go_enter Try.func19, Try.ntmps19
    go_wp2_with (first | (go_at_call 52; refine (l21Money_any _ _).mono ?_; rintro e w' ⟨rfl, rfl⟩) | (go_at_call 53; refine (l21Share_any _ _).mono ?_; rintro e w' ⟨rfl, rfl⟩))
    go_ret2
    exact ⟨rfl, rfl⟩
  · simp only [mtbL, ok3'_t h1 h2 h3, if_true]
    have b1 := inB_t h1
    have b2 := inB_t h2
    have b3 := inB_t h3
    go_enter Try.func19, Try.ntmps19
    go_wp2_with (first | (go_at_call 52; refine (l21Money_any _ _).mono ?_; rintro e w' ⟨rfl, rfl⟩) | (go_at_call 53; refine (l21Share_any _ _).mono ?_; rintro e w' ⟨rfl, rfl⟩))
    clear h1 h2 h3
    go_loop [8] (fun i => ∃ k : Nat, k ≤ 121 ∧ i = .int .i64 k ∧ Hid (firstN (mtbP f v s) 0 121 = firstN (mtbP f v s) k (121 - k))) (fun i => 121 - (intOf i).toNat)
    case atStart => exact ⟨0, by omega, rfl, Lib.hid rfl⟩
    case round =>
      obtain ⟨k, hk, rfl, hf⟩ := hrel
      by_cases hlt : k < 121
      · have e3 : s * k * f = f * k * s := by rw [Int.mul_comm s, Int.mul_comm _ f, Int.mul_assoc]
        obtain ⟨p0, p1⟩ := mul_bd b3.1 b3.2 (show (0 : Int) ≤ k by omega) (show (k : Int) ≤ 121 by omega)
        obtain ⟨q0, q1⟩ := mul_bd p0 p1 b1.1 b1.2
        obtain ⟨p0', p1'⟩ := mul_bd b1.1 b1.2 (show (0 : Int) ≤ k by omega) (show (k : Int) ≤ 121 by omega)
        obtain ⟨q0', q1'⟩ := mul_bd p0' p1' b3.1 b3.2
        have E3 := Lib.hid e3
        clear e3
        by_cases hc : v ≤ f * k * s / 1000
        · go_wp2
          go_ret2
          refine ⟨ret_of (mtb_t hlt ?_ hf.out), rfl⟩
          first | exact hc | (rw [E3.out]; exact hc)
        · have HF := Lib.hid (mtb_f hlt (by first | exact hc | (rw [E3.out]; exact hc)) hf.out)
          go_wp2
          go_round
          case rel => exact ⟨k + 1, by omega, by go_num, HF⟩
          case measure => simp [intOf]; omega
      · go_wp2
        go_ret2
        exact ⟨ret_of (mtb_n hlt hf.out), rfl⟩

def ok3p (a b c : Int) : Bool := inB a 0 10000000 && (inB b 0 1000 && inB c 0 10000000)
def ptgP (a s l : Int) (p : Int) : Bool := decide (a ≤ getsL p s l)
def ptgL (a s l : Int) : Int × Int := if ok3 a s l = true then (if getsL 10000000 s l < a then (0, 3) else (bs (ptgP a s l) 0 10000000, 0)) else (0, 2)
theorem ptg_hi {a s l lo hi : Int} (h : lo < hi) (g : a ≤ getsL ((lo + hi) / 2) s l) (e : bs (ptgP a s l) 0 10000000 = bs (ptgP a s l) lo hi) : bs (ptgP a s l) 0 10000000 = bs (ptgP a s l) lo ((lo + hi) / 2) := by
  rw [e, bs_hi h (by simpa [ptgP] using g)]
theorem ptg_lo {a s l lo hi : Int} (h : lo < hi) (g : ¬ a ≤ getsL ((lo + hi) / 2) s l) (e : bs (ptgP a s l) 0 10000000 = bs (ptgP a s l) lo hi) : bs (ptgP a s l) 0 10000000 = bs (ptgP a s l) ((lo + hi) / 2 + 1) hi := by
  rw [e, bs_lo h (by simpa [ptgP] using g)]
theorem ptg_end {a s l lo hi : Int} (h : ¬ lo < hi) (e : bs (ptgP a s l) 0 10000000 = bs (ptgP a s l) lo hi) : lo = bs (ptgP a s l) 0 10000000 := by
  rw [e, bs_end h]

theorem PriceToGet_i (a s l : Int) (w : World) :
    Calls Try.prog 33 #[.int .i64 a, .int .i64 s, .int .i64 l] w fun e w' => e = .returned (.tuple #[.int .i64 (ptgL a s l).1, .int .i64 (ptgL a s l).2]) ∧ w = w' := by
  cases h1 : inB a 0 10000000
  · simp only [ptgL, ok3_a h1]
    go_enter Try.func33, Try.ntmps33
    go_wp2_with (go_at_call 54; refine (isMoney_any _ _).mono ?_; rintro e w' ⟨rfl, rfl⟩)
    go_ret2
    exact ⟨rfl, rfl⟩
  cases h2 : inB s 0 1000
  · simp only [ptgL, ok3_b h2]
    go_enter Try.func33, Try.ntmps33
    go_wp2_with (first | (go_at_call 54; refine (isMoney_any _ _).mono ?_; rintro e w' ⟨rfl, rfl⟩) | (go_at_call 55; refine (isShare_any _ _).mono ?_; rintro e w' ⟨rfl, rfl⟩))
    go_ret2
    exact ⟨rfl, rfl⟩
  cases h3 : inB l 0 10000000
  · simp only [ptgL, ok3_c h3]
    go_enter Try.func33, Try.ntmps33
    go_wp2_with (first | (go_at_call 54; refine (isMoney_any _ _).mono ?_; rintro e w' ⟨rfl, rfl⟩) | (go_at_call 55; refine (isShare_any _ _).mono ?_; rintro e w' ⟨rfl, rfl⟩))
    go_ret2
    exact ⟨rfl, rfl⟩
  · simp only [ptgL, ok3_t h1 h2 h3, if_true]
    have b1 := inB_t h1
    have b2 := inB_t h2
    have b3 := inB_t h3
    by_cases hc : getsL 10000000 s l < a
    · rw [if_pos hc]
      go_enter Try.func33, Try.ntmps33
      go_wp2_with (first | (go_at_call 54; refine (isMoney_any _ _).mono ?_; rintro e w' ⟨rfl, rfl⟩) | (go_at_call 55; refine (isShare_any _ _).mono ?_; rintro e w' ⟨rfl, rfl⟩) | (go_at_call 57; refine (sellerGets_any _ _ _ _ (by omega) (by omega) b2.1 b2.2 b3.1 b3.2).mono ?_; rintro e w' ⟨rfl, rfl⟩))
      go_ret2
      exact ⟨rfl, rfl⟩
    · rw [if_neg hc]
      go_enter Try.func33, Try.ntmps33
      go_wp2_with (first | (go_at_call 54; refine (isMoney_any _ _).mono ?_; rintro e w' ⟨rfl, rfl⟩) | (go_at_call 55; refine (isShare_any _ _).mono ?_; rintro e w' ⟨rfl, rfl⟩) | (go_at_call 57; refine (sellerGets_any _ _ _ _ (by omega) (by omega) b2.1 b2.2 b3.1 b3.2).mono ?_; rintro e w' ⟨rfl, rfl⟩))
      clear h1 h2 h3
      go_loop [8, 9] (fun i j => ∃ lo hi : Int, 0 ≤ lo ∧ lo ≤ hi ∧ hi ≤ 10000000 ∧ i = .int .i64 lo ∧ j = .int .i64 hi ∧ Hid (bs (ptgP a s l) 0 10000000 = bs (ptgP a s l) lo hi)) (fun i j => (intOf j - intOf i).toNat)
      case atStart => exact ⟨0, 10000000, by omega, by omega, by omega, rfl, rfl, Lib.hid rfl⟩
      case round =>
        obtain ⟨lo, hi, ha, hb, hd, rfl, rfl, hf⟩ := hrel
        by_cases hlt : lo < hi
        · by_cases hg : a ≤ getsL ((lo + hi) / 2) s l
          · have HF := Lib.hid (ptg_hi hlt hg hf.out)
            go_wp2_with ((go_at_call 57; refine (sellerGets_any _ _ _ _ (by omega) (by omega) b2.1 b2.2 b3.1 b3.2).mono ?_; rintro e w' ⟨rfl, rfl⟩))
            go_round
            case rel => exact ⟨lo, (lo + hi) / 2, by omega, by omega, by omega, rfl, rfl, HF⟩
            case measure => simp [intOf]; omega
          · have HF := Lib.hid (ptg_lo hlt hg hf.out)
            go_wp2_with ((go_at_call 57; refine (sellerGets_any _ _ _ _ (by omega) (by omega) b2.1 b2.2 b3.1 b3.2).mono ?_; rintro e w' ⟨rfl, rfl⟩))
            go_round
            case rel => exact ⟨(lo + hi) / 2 + 1, hi, by omega, by omega, by omega, rfl, rfl, HF⟩
            case measure => simp [intOf]; omega
        · go_wp2
          go_ret2
          exact ⟨ret_pair (ptg_end (by omega) hf.out) rfl, rfl⟩
theorem PriceToGet_s (a s l : Int) (w : World) :
    Calls Try.prog 32 #[.int .i64 a, .int .i64 s, .int .i64 l] w fun e w' => e = .returned (.tuple #[.int .i64 (ptgL a s l).1, .int .i64 (ptgL a s l).2]) ∧ w = w' := by
  cases h1 : inB a 0 10000000
  · simp only [ptgL, ok3_a h1]
    go_enter Try.func32, Try.ntmps32
    go_wp2_with (go_at_call 52; refine (l21Money_any _ _).mono ?_; rintro e w' ⟨rfl, rfl⟩)
    go_ret2
    exact ⟨rfl, rfl⟩
  cases h2 : inB s 0 1000
  · simp only [ptgL, ok3_b h2]
    go_enter Try.func32, Try.ntmps32
    go_wp2_with (first | (go_at_call 52; refine (l21Money_any _ _).mono ?_; rintro e w' ⟨rfl, rfl⟩) | (go_at_call 53; refine (l21Share_any _ _).mono ?_; rintro e w' ⟨rfl, rfl⟩))
    go_ret2
    exact ⟨rfl, rfl⟩
  cases h3 : inB l 0 10000000
  · simp only [ptgL, ok3_c h3]
    go_enter Try.func32, Try.ntmps32
    go_wp2_with (first | (go_at_call 52; refine (l21Money_any _ _).mono ?_; rintro e w' ⟨rfl, rfl⟩) | (go_at_call 53; refine (l21Share_any _ _).mono ?_; rintro e w' ⟨rfl, rfl⟩))
    go_ret2
    exact ⟨rfl, rfl⟩
  · simp only [ptgL, ok3_t h1 h2 h3, if_true]
    have b1 := inB_t h1
    have b2 := inB_t h2
    have b3 := inB_t h3
    by_cases hc : getsL 10000000 s l < a
    · rw [if_pos hc]
      go_enter Try.func32, Try.ntmps32
      go_wp2_with (first | (go_at_call 52; refine (l21Money_any _ _).mono ?_; rintro e w' ⟨rfl, rfl⟩) | (go_at_call 53; refine (l21Share_any _ _).mono ?_; rintro e w' ⟨rfl, rfl⟩) | (go_at_call 56; refine (l24Gets_any _ _ _ _ (by omega) (by omega) b2.1 b2.2 b3.1 b3.2).mono ?_; rintro e w' ⟨rfl, rfl⟩))
      go_ret2
      exact ⟨rfl, rfl⟩
    · rw [if_neg hc]
      go_enter Try.func32, Try.ntmps32
      go_wp2_with (first | (go_at_call 52; refine (l21Money_any _ _).mono ?_; rintro e w' ⟨rfl, rfl⟩) | (go_at_call 53; refine (l21Share_any _ _).mono ?_; rintro e w' ⟨rfl, rfl⟩) | (go_at_call 56; refine (l24Gets_any _ _ _ _ (by omega) (by omega) b2.1 b2.2 b3.1 b3.2).mono ?_; rintro e w' ⟨rfl, rfl⟩))
      clear h1 h2 h3
      go_loop [8, 9] (fun i j => ∃ lo hi : Int, 0 ≤ lo ∧ lo ≤ hi ∧ hi ≤ 10000000 ∧ i = .int .i64 lo ∧ j = .int .i64 hi ∧ Hid (bs (ptgP a s l) 0 10000000 = bs (ptgP a s l) lo hi)) (fun i j => (intOf j - intOf i).toNat)
      case atStart => exact ⟨0, 10000000, by omega, by omega, by omega, rfl, rfl, Lib.hid rfl⟩
      case round =>
        obtain ⟨lo, hi, ha, hb, hd, rfl, rfl, hf⟩ := hrel
        by_cases hlt : lo < hi
        · by_cases hg : a ≤ getsL ((lo + hi) / 2) s l
          · have HF := Lib.hid (ptg_hi hlt hg hf.out)
            go_wp2_with ((go_at_call 56; refine (l24Gets_any _ _ _ _ (by omega) (by omega) b2.1 b2.2 b3.1 b3.2).mono ?_; rintro e w' ⟨rfl, rfl⟩))
            go_round
            case rel => exact ⟨lo, (lo + hi) / 2, by omega, by omega, by omega, rfl, rfl, HF⟩
            case measure => simp [intOf]; omega
          · have HF := Lib.hid (ptg_lo hlt hg hf.out)
            go_wp2_with ((go_at_call 56; refine (l24Gets_any _ _ _ _ (by omega) (by omega) b2.1 b2.2 b3.1 b3.2).mono ?_; rintro e w' ⟨rfl, rfl⟩))
            go_round
            case rel => exact ⟨(lo + hi) / 2 + 1, hi, by omega, by omega, by omega, rfl, rfl, HF⟩
            case measure => simp [intOf]; omega
        · go_wp2
          go_ret2
          exact ⟨ret_pair (ptg_end (by omega) hf.out) rfl, rfl⟩
end Go.Proofs.Ytbkmfhdagnlgiaa
