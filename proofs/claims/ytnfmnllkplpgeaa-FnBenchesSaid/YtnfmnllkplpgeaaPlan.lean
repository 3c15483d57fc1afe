/- Plans: rows of forty days. -/
import Derived.Test.YtnfmnllkplpgeaaInts2
import Derived.Test.YtnfmnllkplpgeaaNum
set_option linter.unusedVariables false
namespace Go.Proofs.Ytnfmnllkplpgeaa
open Go.RowKit

theorem isSpan_any (n : Int) (w : World) :
    Calls Try.prog 25 #[.int .i64 n] w fun e w' => e = .returned (.bool (inB n (1) (40))) ∧ w = w' := by
  go_enter Try.func25, Try.ntmps25
  go_wp2_with (go_at_call 34; refine (within_any _ _ _ _).mono ?_; rintro e w' ⟨rfl, rfl⟩)
  go_ret
  exact ⟨rfl, rfl⟩
theorem isDate_any (n : Int) (w : World) :
    Calls Try.prog 24 #[.int .i64 n] w fun e w' => e = .returned (.bool (inB n (0) (39))) ∧ w = w' := by
  go_enter Try.func24, Try.ntmps24
  go_wp2_with (go_at_call 34; refine (within_any _ _ _ _).mono ?_; rintro e w' ⟨rfl, rfl⟩)
  go_ret
  exact ⟨rfl, rfl⟩
theorem isWork_any (n : Int) (w : World) :
    Calls Try.prog 26 #[.int .i64 n] w fun e w' => e = .returned (.bool (inB n (1) (8))) ∧ w = w' := by
  go_enter Try.func26, Try.ntmps26
  go_wp2_with (go_at_call 34; refine (within_any _ _ _ _).mono ?_; rintro e w' ⟨rfl, rfl⟩)
  go_ret
  exact ⟨rfl, rfl⟩
def rowTo (r : List Int) : Nat → Bool
  | 0 => true
  | k + 1 => rowTo r k && inB (r.getD k 0) 0 8
def rowB (r : List Int) : Bool := (r.length == 40) && rowTo r 40
def planTo (rs : List (List Int)) : Nat → Bool
  | 0 => true
  | i + 1 => planTo rs i && rowB (rs.getD i [])
def planB (rs : List (List Int)) : Bool := planTo rs rs.length && inB (rs.length : Int) 1 6
theorem getD_is {α : Type} {l : List α} {i : Nat} {x d : α} (h : l[i]? = some x) : l.getD i d = x := by simp [List.getD, h]
theorem rowTo_bad {r : List Int} {k n : Nat} (h : k < n) (g : inB (r.getD k 0) 0 8 = false) : rowTo r n = false := by
  induction n with
  | zero => omega
  | succ n ih =>
    rw [rowTo]
    rcases Nat.lt_or_ge k n with hl | hl
    · rw [ih hl]; rfl
    · obtain rfl : k = n := by omega
      rw [g, Bool.and_false]
theorem rowTo_next {r : List Int} {k : Nat} {z : Int} (h : rowTo r k = true) (hz : r[k]? = some z) (g : inB z 0 8 = true) : rowTo r (k + 1) = true := by rw [rowTo, h, getD_is hz, g]; rfl
theorem planTo_bad {rs : List (List Int)} {k n : Nat} (h : k < n) (g : rowB (rs.getD k []) = false) : planTo rs n = false := by
  induction n with
  | zero => omega
  | succ n ih =>
    rw [planTo]
    rcases Nat.lt_or_ge k n with hl | hl
    · rw [ih hl]; rfl
    · obtain rfl : k = n := by omega
      rw [g, Bool.and_false]
theorem planB_bad {rs : List (List Int)} {k : Nat} {r : List Int} (hr : rs[k]? = some r) (g : rowB r = false) : planB rs = false := by
  rw [planB, planTo_bad (List.getElem?_eq_some_iff.1 hr).1 (by rw [getD_is hr]; exact g), Bool.false_and]
theorem rowB_len {r : List Int} (h : r.length ≠ 40) : rowB r = false := by simp [rowB, h]
theorem rowB_bad {r : List Int} {k : Nat} {z : Int} (hk : k < 40) (hz : r[k]? = some z) (g : inB z 0 8 = false) : rowB r = false := by rw [rowB, rowTo_bad hk (by rw [getD_is hz]; exact g), Bool.and_false]
theorem planTo_next {rs : List (List Int)} {k : Nat} {r : List Int} (h : planTo rs k = true) (hr : rs[k]? = some r) (hl : r.length = 40) (g : rowTo r 40 = true) : planTo rs (k + 1) = true := by
  rw [planTo, h, getD_is hr]; simp [rowB, hl, g]
theorem planB_end {rs : List (List Int)} {n : Nat} (hn : rs.length = n) (h : planTo rs n = true) : planB rs = inB (n : Int) 1 6 := by subst hn; rw [planB, h, Bool.true_and]
theorem rowTo_t {r : List Int} {n : Nat} (h : rowTo r n = true) : ∀ (k : Nat), k < n → inB (r.getD k 0) 0 8 = true := by
  intro k hk
  cases g : inB (r.getD k 0) 0 8
  · rw [rowTo_bad hk g] at h; cases h
  · rfl
theorem planTo_t {rs : List (List Int)} {n : Nat} (h : planTo rs n = true) : ∀ (k : Nat), k < n → rowB (rs.getD k []) = true := by
  intro k hk
  cases g : rowB (rs.getD k [])
  · rw [planTo_bad hk g] at h; cases h
  · rfl
/-- what a valid plan gives -/
theorem planB_t {rs : List (List Int)} (h : planB rs = true) : 1 ≤ rs.length ∧ rs.length ≤ 6 ∧ ∀ r ∈ rs, r.length = 40 ∧ ∀ z ∈ r, 0 ≤ z ∧ z ≤ 8 := by
  simp only [planB, Bool.and_eq_true] at h
  have a := inB_t h.2
  refine ⟨by omega, by omega, fun r hr => ?_⟩
  obtain ⟨i, hi, rfl⟩ := List.getElem_of_mem hr
  have b := planTo_t h.1 i hi
  rw [getD_is (List.getElem?_eq_getElem hi)] at b
  simp only [rowB, Bool.and_eq_true, beq_iff_eq] at b
  refine ⟨b.1, fun z hz => ?_⟩
  obtain ⟨j, hj, rfl⟩ := List.getElem_of_mem hz
  have c := rowTo_t b.2 j (by omega)
  rw [getD_is (List.getElem?_eq_getElem hj)] at c
  exact inB_t c
set_option maxHeartbeats 2000000 in
theorem ValidPlan_i (A : Option Addr) (c n L B : Nat) (rs : List (List Int)) (w : World) (h : Rd2 w L B A n rs) (hm : n ≤ maxLen) (hr : ∀ r ∈ rs, r.length ≤ maxLen) :
    Calls Try.prog 22 #[.slice A n c] w fun e w' => e = .returned (.bool (planB rs)) ∧ w = w' := by
  unfold maxLen at hm
  have HN := Lib.hid h.1
  have H := Lib.hid h
  clear h
  go_enter Try.func22, Try.ntmps22
  go_wp2
  go_loop [9] (fun i => ∃ k : Nat, k ≤ n ∧ i = .int .i64 k ∧ Hid (planTo rs k = true)) (fun i => n - (intOf i).toNat)
  case atStart => exact ⟨0, Nat.zero_le _, rfl, Lib.hid rfl⟩
  case round =>
    obtain ⟨k, hk, rfl, hf⟩ := hrel
    by_cases hlt : k < n
    · obtain ⟨r, hx, hxm⟩ := getD_of (l := rs) (i := k) (by rw [HN.out]; exact hlt)
      have rl := hr r hxm
      unfold maxLen at rl
      have HX := Lib.hid hx
      obtain ⟨b, o, rfl, hbB, hc⟩ := H.out.at_ (by omega)
      obtain ⟨Ai, ci, c0, hR, hcap⟩ := hc k r hx
      have HR := Lib.hid hR
      clear hc hx hxm hR
      by_cases h40 : r.length = 40
      · have H40 := Lib.hid h40
        rw [h40] at c0
        clear h40 rl
        go_wp2
        go_loop [18] (fun i => ∃ j : Nat, j ≤ 40 ∧ i = .int .i64 j ∧ Hid (rowTo r j = true)) (fun i => 40 - (intOf i).toNat)
        case atStart => exact ⟨0, Nat.zero_le _, rfl, Lib.hid rfl⟩
        case round =>
          obtain ⟨j, hj, rfl, hg⟩ := hrel
          by_cases hjt : j < 40
          · obtain ⟨z, hz, _⟩ := getD_of (l := r) (i := j) (by rw [H40.out]; exact hjt)
            obtain ⟨b', o', rfl, hbB', hc'⟩ := HR.out.1.ints (by rw [H40.out]; omega)
            have d0 : w.cell? ⟨b', o' + j, none⟩ = some (.int .i64 z) := hc' j z hz
            have HZ := Lib.hid hz
            clear hc' hz
            cases hv : inB z 0 8
            · have HF := Lib.hid (planB_bad HX.out (rowB_bad hjt HZ.out hv))
              go_wp2_with ((go_at_call 34; refine (within_any _ _ _ _).mono ?_; rintro e w' ⟨rfl, rfl⟩))
              go_ret
              exact ⟨ret_bool HF.out.symm, rfl⟩
            · have HG := Lib.hid (rowTo_next hg.out HZ.out hv)
              go_wp2_with ((go_at_call 34; refine (within_any _ _ _ _).mono ?_; rintro e w' ⟨rfl, rfl⟩))
              go_round
              case rel => exact ⟨j + 1, by omega, by go_num, HG⟩
              case measure => simp [intOf]; omega
          · obtain rfl : j = 40 := by omega
            have HF := Lib.hid (planTo_next hf.out HX.out H40.out hg.out)
            go_wp2
            go_round
            case rel => exact ⟨k + 1, by omega, by go_num, HF⟩
            case measure => simp [intOf]; omega
      · have HF := Lib.hid (planB_bad HX.out (rowB_len h40))
        have q : ((r.length : Int) != 40) = true := by simp; omega
        have q' : ((r.length : Int) == 40) = false := by rw [Bool.eq_false_iff]; simp; omega
        clear h40
        go_wp2
        go_ret
        exact ⟨ret_bool HF.out.symm, rfl⟩
    · obtain rfl : k = n := by omega
      have HF := Lib.hid (planB_end HN.out hf.out)
      go_wp2_with ((go_at_call 34; refine (within_any _ _ _ _).mono ?_; rintro e w' ⟨rfl, rfl⟩))
      go_ret
      exact ⟨ret_bool HF.out.symm, rfl⟩
set_option maxHeartbeats 2000000 in
theorem l18Plan_s (A : Option Addr) (c n L B : Nat) (rs : List (List Int)) (w : World) (h : Rd2 w L B A n rs) (hm : n ≤ maxLen) (hr : ∀ r ∈ rs, r.length ≤ maxLen) :
    Calls Try.prog 31 #[.slice A n c] w fun e w' => e = .returned (.bool (planB rs)) ∧ w = w' := by
  unfold maxLen at hm
  have HN := Lib.hid h.1
  have H := Lib.hid h
  clear h
  go_enter Try.func31, Try.ntmps31
  go_wp2
  go_loop [3] (fun i => ∃ k : Nat, k ≤ n ∧ i = .int .i64 k ∧ Hid (planTo rs k = true)) (fun i => n - (intOf i).toNat)
  case atStart => exact ⟨0, Nat.zero_le _, rfl, Lib.hid rfl⟩
  case round =>
    obtain ⟨k, hk, rfl, hf⟩ := hrel
    by_cases hlt : k < n
    · obtain ⟨r, hx, hxm⟩ := getD_of (l := rs) (i := k) (by rw [HN.out]; exact hlt)
      have rl := hr r hxm
      unfold maxLen at rl
      have HX := Lib.hid hx
      obtain ⟨b, o, rfl, hbB, hc⟩ := H.out.at_ (by omega)
      obtain ⟨Ai, ci, c0, hR, hcap⟩ := hc k r hx
      have HR := Lib.hid hR
      clear hc hx hxm hR
      by_cases h40 : r.length = 40
      · have H40 := Lib.hid h40
        rw [h40] at c0
        clear h40 rl
        go_wp2
        go_loop [4] (fun i => ∃ j : Nat, j ≤ 40 ∧ i = .int .i64 j ∧ Hid (rowTo r j = true)) (fun i => 40 - (intOf i).toNat)
        case atStart => exact ⟨0, Nat.zero_le _, rfl, Lib.hid rfl⟩
        case round =>
          obtain ⟨j, hj, rfl, hg⟩ := hrel
          by_cases hjt : j < 40
          · obtain ⟨z, hz, _⟩ := getD_of (l := r) (i := j) (by rw [H40.out]; exact hjt)
            obtain ⟨b', o', rfl, hbB', hc'⟩ := HR.out.1.ints (by rw [H40.out]; omega)
            have d0 : w.cell? ⟨b', o' + j, none⟩ = some (.int .i64 z) := hc' j z hz
            have HZ := Lib.hid hz
            clear hc' hz
            cases hv : inB z 0 8
            · have HF := Lib.hid (planB_bad HX.out (rowB_bad hjt HZ.out hv))
              go_wp2_with ((go_at_call 36; refine (l00In_any _ _ _ _).mono ?_; rintro e w' ⟨rfl, rfl⟩))
              go_ret
              exact ⟨ret_bool HF.out.symm, rfl⟩
            · have HG := Lib.hid (rowTo_next hg.out HZ.out hv)
              go_wp2_with ((go_at_call 36; refine (l00In_any _ _ _ _).mono ?_; rintro e w' ⟨rfl, rfl⟩))
              go_round
              case rel => exact ⟨j + 1, by omega, by go_num, HG⟩
              case measure => simp [intOf]; omega
          · obtain rfl : j = 40 := by omega
            have HF := Lib.hid (planTo_next hf.out HX.out H40.out hg.out)
            go_wp2
            go_round
            case rel => exact ⟨k + 1, by omega, by go_num, HF⟩
            case measure => simp [intOf]; omega
      · have HF := Lib.hid (planB_bad HX.out (rowB_len h40))
        have q : ((r.length : Int) != 40) = true := by simp; omega
        have q' : ((r.length : Int) == 40) = false := by rw [Bool.eq_false_iff]; simp; omega
        clear h40
        go_wp2
        go_ret
        exact ⟨ret_bool HF.out.symm, rfl⟩
    · obtain rfl : k = n := by omega
      have HF := Lib.hid (planB_end HN.out hf.out)
      by_cases hq : 1 ≤ k
      · go_wp2
        go_ret
        exact ⟨ret_bool (by rw [HF.out]; simp [inB]; omega), rfl⟩
      · go_wp2
        go_ret
        exact ⟨ret_bool (by rw [HF.out]; simp [inB]; omega), rfl⟩
theorem ValidPlan_s (A : Option Addr) (c n L B : Nat) (rs : List (List Int)) (w : World) (h : Rd2 w L B A n rs) (hm : n ≤ maxLen) (hr : ∀ r ∈ rs, r.length ≤ maxLen) :
    Calls Try.prog 10 #[.slice A n c] w fun e w' => e = .returned (.bool (planB rs)) ∧ w = w' := by
  go_enter Try.func10, Try.ntmps10
  go_wp2_with fail
  refine (l18Plan_s A c n L B rs w h hm hr).mono ?_
  rintro r w1 ⟨rfl, rfl⟩
  go_wp2
  go_ret
  exact ⟨rfl, rfl⟩
end Go.Proofs.Ytnfmnllkplpgeaa
