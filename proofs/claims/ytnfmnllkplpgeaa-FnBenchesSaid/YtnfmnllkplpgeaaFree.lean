/- FirstFree. -/
import Derived.Test.YtnfmnllkplpgeaaPlan
set_option linter.unusedVariables false
namespace Go.Proofs.Ytnfmnllkplpgeaa
open Go.RowKit

def zeroTo (r : List Int) (d : Nat) : Nat → Bool
  | 0 => true
  | j + 1 => zeroTo r d j && decide (r.getD (d + j) 0 = 0)
def freeB (r : List Int) (d m : Nat) : Bool := decide (d + m ≤ 40) && zeroTo r d m
theorem zeroTo_bad {r : List Int} {d j m : Nat} (h : j < m) (g : r.getD (d + j) 0 ≠ 0) : zeroTo r d m = false := by
  induction m with
  | zero => omega
  | succ m ih =>
    rw [zeroTo]
    rcases Nat.lt_or_ge j m with hl | hl
    · rw [ih hl]; rfl
    · obtain rfl : j = m := by omega
      simp only [g, decide_false, Bool.and_false]
theorem zeroTo_next {r : List Int} {d j : Nat} {z : Int} (h : zeroTo r d j = true) (hz : r[d + j]? = some z) (g : z = 0) : zeroTo r d (j + 1) = true := by rw [zeroTo, h, getD_is hz, g]; rfl
theorem freeB_far {r : List Int} {d m : Nat} (h : ¬ d + m ≤ 40) : freeB r d m = false := by simp [freeB, h]
theorem freeB_bad {r : List Int} {d m j : Nat} {z : Int} (h : j < m) (hz : r[d + j]? = some z) (g : z ≠ 0) : freeB r d m = false := by rw [freeB, zeroTo_bad h (by rw [getD_is hz]; exact g), Bool.and_false]
theorem freeB_all {r : List Int} {d m : Nat} (h : d + m ≤ 40) (g : zeroTo r d m = true) : freeB r d m = true := by simp [freeB, h, g]
set_option maxHeartbeats 1000000 in
theorem free_any (A : Option Addr) (c d m B : Nat) (r : List Int) (w : World) (h : Rd w B 1 A 40 (iv r)) (hcap : 40 ≤ c) (hd : d ≤ 39) (h1 : 1 ≤ m) (h2 : m ≤ 40) :
    Calls Try.prog 27 #[.slice A 40 c, .int .i64 d, .int .i64 m] w fun e w' => e = .returned (.bool (freeB r d m)) ∧ w = w' := by
  have HN := Lib.hid h.len
  by_cases hf : d + m ≤ 40
  · obtain ⟨b, o, rfl, hb, hc⟩ := h.ints (by omega)
    have HC := Lib.hid hc
    have hcd : ¬ c = d := by omega
    clear h hc
    go_enter Try.func27, Try.ntmps27
    go_wp2
    rw [show d + m - d = m by omega]
    go_loop [20] (fun i => ∃ j : Nat, j ≤ m ∧ i = .int .i64 j ∧ Hid (zeroTo r d j = true)) (fun i => 100 - (intOf i).toNat)
    case atStart => exact ⟨0, by omega, rfl, Lib.hid rfl⟩
    case round =>
      obtain ⟨j, hj, rfl, hg⟩ := hrel
      by_cases hlt : j < m
      · obtain ⟨z, hz, _⟩ := getD_of (l := r) (i := d + j) (by rw [HN.out]; omega)
        have c0 : w.cell? ⟨b, o + d + j, none⟩ = some (.int .i64 z) := by rw [Nat.add_assoc]; exact HC.out _ _ hz
        have HZ := Lib.hid hz
        clear hz
        by_cases hv0 : z = 0
        · have HG := Lib.hid (zeroTo_next hg.out HZ.out hv0)
          subst hv0
          go_wp2
          go_round
          case rel => exact ⟨j + 1, by omega, by go_num, HG⟩
          case measure => simp [intOf]; omega
        · have HF := Lib.hid (freeB_bad hlt HZ.out hv0)
          have q : (z != 0) = true := by simpa using hv0
          have q' : (z == 0) = false := by simpa using hv0
          clear hv0
          go_wp2
          go_ret
          exact ⟨ret_bool HF.out.symm, rfl⟩
      · obtain rfl : j = m := by omega
        have HF := Lib.hid (freeB_all hf hg.out)
        go_wp2
        go_ret
        exact ⟨ret_bool HF.out.symm, rfl⟩
  · rw [freeB_far hf]
    clear h
    go_enter Try.func27, Try.ntmps27
    go_wp2
    go_ret
    exact ⟨rfl, rfl⟩
def ffP (rs : List (List Int)) (d m : Nat) (k : Int) : Bool := freeB (rs.getD k.toNat []) d m
def ffOut (rs : List (List Int)) (m d : Nat) : Nat → Int × Int × Int
  | 0 => (0, 0, 3)
  | f + 1 => match firstN (ffP rs d m) 0 rs.length with
    | some b => ((d : Int), b, 0)
    | none => ffOut rs m (d + 1) f
theorem ffP_is {rs : List (List Int)} {d m k : Nat} {r : List Int} (h : rs[k]? = some r) : ffP rs d m k = freeB r d m := by rw [ffP, Int.toNat_natCast, getD_is h]
theorem ff_t {rs : List (List Int)} {m d n k : Nat} {R : Int × Int × Int} (hn : rs.length = n) (hR : R = ffOut rs m d (40 - d)) (hd : d < 40) (hk : k < n) (hf : firstN (ffP rs d m) 0 n = firstN (ffP rs d m) k (n - k)) (hp : ffP rs d m k = true) : R = ((d : Int), (k : Int), 0) := by
  subst hn
  rw [hR, show 40 - d = (40 - d - 1) + 1 by omega, ffOut, hf, firstN_t hk hp]
theorem ff_c {rs : List (List Int)} {m d n k : Nat} (hk : k < n) (hf : firstN (ffP rs d m) 0 n = firstN (ffP rs d m) k (n - k)) (hp : ffP rs d m k = false) : firstN (ffP rs d m) 0 n = firstN (ffP rs d m) (k + 1) (n - (k + 1)) := by rw [hf, firstN_f hk hp]
theorem ff_n {rs : List (List Int)} {m d n : Nat} {R : Int × Int × Int} (hn : rs.length = n) (hR : R = ffOut rs m d (40 - d)) (hd : d < 40) (hf : firstN (ffP rs d m) 0 n = firstN (ffP rs d m) n (n - n)) : R = ffOut rs m (d + 1) (40 - (d + 1)) := by
  subst hn
  rw [hR, show 40 - d = (40 - (d + 1)) + 1 by omega, ffOut, hf, Nat.sub_self, firstN]
theorem ff_e {rs : List (List Int)} {m d : Nat} {R : Int × Int × Int} (hR : R = ffOut rs m d (40 - d)) (hd : ¬ d < 40) : R = (0, 0, 3) := by rw [hR, show 40 - d = 0 by omega, ffOut]
theorem ret_3 {R : Int × Int × Int} {a b c : Int} (h : R = (a, b, c)) : Ending.returned (.tuple #[.int .i64 a, .int .i64 b, .int .i64 c]) = .returned (.tuple #[.int .i64 R.1, .int .i64 R.2.1, .int .i64 R.2.2]) := by rw [h]
def FirstFree_L (rs : List (List Int)) (days from_ : Int) : Int × Int × Int := if planB rs = true then (if (inB days 1 40 && inB from_ 0 39) = true then ffOut rs days.toNat from_.toNat (40 - from_.toNat) else (0, 0, 2)) else (0, 0, 1)
set_option maxHeartbeats 2000000 in
theorem FirstFree_i (A : Option Addr) (c n : Nat) (rs : List (List Int)) (dy fr : Int) (w : World) (h : Rd2 w 0 w.heap.size A n rs) (hm : n ≤ maxLen) (hr : ∀ r ∈ rs, r.length ≤ maxLen) :
    Calls Try.prog 15 #[.slice A n c, .int .i64 dy, .int .i64 fr] w fun e w' => e = .returned (.tuple #[.int .i64 (FirstFree_L rs dy fr).1, .int .i64 (FirstFree_L rs dy fr).2.1, .int .i64 (FirstFree_L rs dy fr).2.2]) ∧ Below w.heap.size w w' := by
  have HV := Lib.hid (ValidPlan_i A c n _ _ rs w h hm hr)
  have HN := Lib.hid h.1
  have H := Lib.hid h
  cases hp : planB rs
  · rw [show FirstFree_L rs dy fr = (0, 0, 1) by simp [FirstFree_L, hp]]
    go_enter Try.func15, Try.ntmps15
    go_wp2_with fail
    refine HV.out.mono ?_
    rw [hp]
    rintro r w' ⟨rfl, rfl⟩
    go_wp2
    go_ret3
    exact ⟨rfl, Below.refl _ _⟩
  cases g1 : inB dy 1 40
  · rw [show FirstFree_L rs dy fr = (0, 0, 2) by simp [FirstFree_L, hp, g1]]
    go_enter Try.func15, Try.ntmps15
    go_wp2_with fail
    refine HV.out.mono ?_
    rw [hp]
    rintro r w' ⟨rfl, rfl⟩
    go_wp2_with (first | (go_at_call 25; refine (isSpan_any _ _).mono ?_; rintro e w' ⟨rfl, rfl⟩) | (go_at_call 24; refine (isDate_any _ _).mono ?_; rintro e w' ⟨rfl, rfl⟩))
    go_ret3
    exact ⟨rfl, Below.refl _ _⟩
  cases g2 : inB fr 0 39
  · rw [show FirstFree_L rs dy fr = (0, 0, 2) by simp [FirstFree_L, hp, g2]]
    go_enter Try.func15, Try.ntmps15
    go_wp2_with fail
    refine HV.out.mono ?_
    rw [hp]
    rintro r w' ⟨rfl, rfl⟩
    go_wp2_with (first | (go_at_call 25; refine (isSpan_any _ _).mono ?_; rintro e w' ⟨rfl, rfl⟩) | (go_at_call 24; refine (isDate_any _ _).mono ?_; rintro e w' ⟨rfl, rfl⟩))
    go_ret3
    exact ⟨rfl, Below.refl _ _⟩
  · have P := planB_t hp
    have HP := Lib.hid P.2.2
    have n6 : n ≤ 6 := by have := P.2.1; rw [HN.out] at this; exact this
    have q1 := inB_t g1
    have q2 := inB_t g2
    rw [show FirstFree_L rs dy fr = ffOut rs dy.toNat fr.toNat (40 - fr.toNat) by simp [FirstFree_L, hp, g1, g2]]
    obtain ⟨m, rfl⟩ : ∃ m : Nat, dy = m := ⟨dy.toNat, by omega⟩
    obtain ⟨d0, rfl⟩ : ∃ d0 : Nat, fr = d0 := ⟨fr.toNat, by omega⟩
    rw [Int.toNat_natCast, Int.toNat_natCast]
    obtain ⟨R, hR⟩ : ∃ R, R = ffOut rs m d0 (40 - d0) := ⟨_, rfl⟩
    rw [← hR]
    have HR0 := Lib.hid hR
    have HPB := Lib.hid hp
    have hm1 : 1 ≤ m := by omega
    have hm2 : m ≤ 40 := by omega
    have hd0 : d0 ≤ 39 := by omega
    clear P h hm hr hp hR
    go_enter Try.func15, Try.ntmps15
    go_wp2_with fail
    refine HV.out.mono ?_
    rw [HPB.out]
    rintro r w' ⟨rfl, rfl⟩
    clear HV HPB
    go_wp2_with (first | (go_at_call 25; refine (isSpan_any _ _).mono ?_; rintro e w' ⟨rfl, rfl⟩) | (go_at_call 24; refine (isDate_any _ _).mono ?_; rintro e w' ⟨rfl, rfl⟩))
    clear g1 g2 q1 q2
    go_loop [9] (fun i => ∃ d : Nat, d ≤ 40 ∧ i = .int .i64 d ∧ Hid (R = ffOut rs m d (40 - d))) (fun i => 40 - (intOf i).toNat)
    case atStart => exact ⟨d0, by omega, rfl, HR0⟩
    case round =>
      obtain ⟨d, hd, rfl, hF⟩ := hrel
      by_cases hdt : d < 40
      · have HD : inB (d : Int) 0 39 = true := inB_mk (by omega)
        go_wp2_with ((go_at_call 24; refine (isDate_any _ _).mono ?_; rintro e w' ⟨rfl, rfl⟩))
        clear HD
        go_loop [30] (fun i => ∃ k : Nat, k ≤ n ∧ i = .int .i64 k ∧ Hid (firstN (ffP rs d m) 0 n = firstN (ffP rs d m) k (n - k))) (fun i => n - (intOf i).toNat)
        case atStart => exact ⟨0, Nat.zero_le _, rfl, Lib.hid rfl⟩
        case round =>
          obtain ⟨k, hk, rfl, hf⟩ := hrel
          by_cases hkt : k < n
          · obtain ⟨r, hx, hxm⟩ := getD_of (l := rs) (i := k) (by rw [HN.out]; exact hkt)
            have h40 := (HP.out r hxm).1
            have HPI := Lib.hid (ffP_is (d := d) (m := m) hx)
            obtain ⟨b, o, rfl, hbB, hc⟩ := H.out.at_ (by omega)
            obtain ⟨Ai, ci, c0, hR, hcap⟩ := hc k r hx
            rw [h40] at c0 hcap hR
            have HR := Lib.hid hR.1
            clear hc hx hxm hR h40
            cases hfb : freeB r d m
            · have HF := Lib.hid (ff_c hkt hf.out (HPI.out.trans hfb))
              go_wp2_with ((go_at_call 27; refine (free_any _ _ _ _ _ r _ HR.out hcap (by omega) hm1 hm2).mono ?_; rintro e w' ⟨rfl, rfl⟩))
              go_round
              case rel => exact ⟨k + 1, by omega, by go_num, HF⟩
              case measure => simp [intOf]; omega
            · have HF := Lib.hid (ff_t HN.out hF.out hdt hkt hf.out (HPI.out.trans hfb))
              go_wp2_with ((go_at_call 27; refine (free_any _ _ _ _ _ r _ HR.out hcap (by omega) hm1 hm2).mono ?_; rintro e w' ⟨rfl, rfl⟩))
              go_ret3
              exact ⟨ret_3 HF.out, Below.refl _ _⟩
          · obtain rfl : k = n := by omega
            have HF := Lib.hid (ff_n HN.out hF.out hdt hf.out)
            go_wp2
            go_round
            case rel => exact ⟨d + 1, by omega, by go_num, HF⟩
            case measure => simp [intOf]; omega
      · have HF := Lib.hid (ff_e hF.out hdt)
        have HD : inB (d : Int) 0 39 = false := inB_no (by omega)
        go_wp2_with ((go_at_call 24; refine (isDate_any _ _).mono ?_; rintro e w' ⟨rfl, rfl⟩))
        go_ret3
        exact ⟨ret_3 HF.out, Below.refl _ _⟩
end Go.Proofs.Ytnfmnllkplpgeaa
