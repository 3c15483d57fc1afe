/- Set-ups of strings: what is asked of strings and gauges. -/
import Derived.Test.YtemkggecempmgaaSetP
import Derived.Test.YtemkggecempmgaaLines
import Derived.Test.YtemkggecempmgaaSpread
import Derived.Deep.DeepCutAuto
set_option linter.unusedVariables false
namespace Go.Proofs.Ytemkggecempmgaa
open Go.RowKit

def cordP (x : CordD) : Bool := cordB x.a0 x.a1 x.a2 x.a3
def cordsTo (ds : List CordD) : Nat → Bool
  | 0 => true
  | k + 1 => cordsTo ds k && cordP (ds.getD k ⟨0, 0, 0, 0⟩)
def cordsB (ds : List CordD) : Bool := cordsTo ds ds.length && decide (ds.length ≤ 4)
theorem cordsTo_bad {ds : List CordD} {k n : Nat} (h : k < n) (g : cordP (ds.getD k ⟨0, 0, 0, 0⟩) = false) : cordsTo ds n = false := by
  induction n with
  | zero => omega
  | succ n ih =>
    rw [cordsTo]
    rcases Nat.lt_or_ge k n with hl | hl
    · rw [ih hl]; rfl
    · obtain rfl : k = n := by omega
      rw [g, Bool.and_false]
theorem cordsTo_at {ds : List CordD} {n k : Nat} (h : cordsTo ds n = true) (hk : k < n) : cordP (ds.getD k ⟨0, 0, 0, 0⟩) = true := by
  cases e : cordP (ds.getD k ⟨0, 0, 0, 0⟩)
  · rw [cordsTo_bad hk e] at h; cases h
  · rfl
theorem cordsB_t {ds : List CordD} (h : cordsB ds = true) : ds.length ≤ 4 ∧ ∀ x ∈ ds, cordOk x.a0 x.a1 x.a2 x.a3 := by
  rw [cordsB, Bool.and_eq_true] at h
  refine ⟨of_decide_eq_true h.2, fun x hx => ?_⟩
  obtain ⟨i, hi⟩ := List.getElem?_of_mem hx
  have := cordsTo_at h.1 (List.getElem?_eq_some_iff.1 hi).1
  rw [getD_ok hi] at this
  exact cordOk_of this
def rzAt (r : List Int) (k : Nat) : Bool := inB (r.getD k 0) 1 10000 && (decide (k = 0) || decide (r.getD (k - 1) 0 < r.getD k 0))
def rzTo (r : List Int) : Nat → Bool
  | 0 => true
  | k + 1 => rzTo r k && rzAt r k
theorem rzTo_bad {r : List Int} {k n : Nat} (h : k < n) (g : rzAt r k = false) : rzTo r n = false := by
  induction n with
  | zero => omega
  | succ n ih =>
    rw [rzTo]
    rcases Nat.lt_or_ge k n with hl | hl
    · rw [ih hl]; rfl
    · obtain rfl : k = n := by omega
      rw [g, Bool.and_false]
def rowG (r : List Int) : Bool := rzTo r r.length && decide (r.length ≤ 6)
def gTo (gs : List (List Int)) : Nat → Bool
  | 0 => true
  | k + 1 => gTo gs k && rowG (gs.getD k [])
theorem gTo_bad {gs : List (List Int)} {k n : Nat} (h : k < n) (g : rowG (gs.getD k []) = false) : gTo gs n = false := by
  induction n with
  | zero => omega
  | succ n ih =>
    rw [gTo]
    rcases Nat.lt_or_ge k n with hl | hl
    · rw [ih hl]; rfl
    · obtain rfl : k = n := by omega
      rw [g, Bool.and_false]
theorem rowG_t {r : List Int} (h : rowG r = true) : r.length ≤ 6 ∧ ∀ z ∈ r, 1 ≤ z ∧ z ≤ 10000 := by
  rw [rowG, Bool.and_eq_true] at h
  refine ⟨of_decide_eq_true h.2, fun z hz => ?_⟩
  obtain ⟨i, hi⟩ := List.getElem?_of_mem hz
  have hl := (List.getElem?_eq_some_iff.1 hi).1
  cases e : rzAt r i
  · rw [rzTo_bad hl e] at h; cases h.1
  · rw [rzAt, Bool.and_eq_true, getD_ok hi] at e
    exact inB_t e.1
theorem gTo_t {gs : List (List Int)} (h : gTo gs gs.length = true) : ∀ r ∈ gs, r.length ≤ 6 ∧ ∀ z ∈ r, 1 ≤ z ∧ z ≤ 10000 := by
  intro r hr
  obtain ⟨i, hi⟩ := List.getElem?_of_mem hr
  have hl := (List.getElem?_eq_some_iff.1 hi).1
  cases e : rowG (gs.getD i [])
  · rw [gTo_bad hl e] at h; cases h
  · rw [getD_ok hi] at e; exact rowG_t e
set_option maxHeartbeats 1000000 in
theorem validCords_any (A : Option Addr) (c n : Nat) (ds : List CordD) (w : World) (hn : ds.length = n) (h : Rd w w.heap.size 4 A n (ds.flatMap cordF)) (hm : n ≤ 1048576) :
    Calls Try.prog 49 #[.slice A n c] w fun e w' => e = .returned (.bool (cordsB ds)) ∧ Below w.heap.size w w' := by
  have HN := Lib.hid hn
  have H := Lib.hid h
  have HB : Hid (cordsB ds = (cordsTo ds n && decide (n ≤ 4))) := Lib.hid (by rw [cordsB, hn])
  clear hn h
  go_enter Try.func49, Try.ntmps49
  go_wp2
  go_loopw [7] (fun i wr => ∃ k : Nat, k ≤ n ∧ i = .int .i64 k ∧ Hid (cordsTo ds k = true) ∧ Hid (Below w.heap.size w wr)) (fun i _ => n - (intOf i).toNat)
  case atStart => exact ⟨0, Nat.zero_le _, rfl, Lib.hid rfl, Lib.hid (Below.refl _ _)⟩
  case round =>
    obtain ⟨k, hk, rfl, HT, hb⟩ := hrel
    by_cases hlt : k < n
    · obtain ⟨x, hx, hxm⟩ := getD_of (l := ds) (i := k) (by rw [HN.out]; exact hlt)
      obtain ⟨b, o, rfl, hbB, hc⟩ := (H.out.below hb.out).at_ cordF_len (by omega)
      have c0 := hc k x 0 _ hx rfl
      have c1 : wr.cell? ⟨b, o + k * 4 + 1, none⟩ = some (.int .i64 x.a1) := hc k x 1 _ hx rfl
      have c2 : wr.cell? ⟨b, o + k * 4 + 2, none⟩ = some (.int .i64 x.a2) := hc k x 2 _ hx rfl
      have c3 : wr.cell? ⟨b, o + k * 4 + 3, none⟩ = some (.int .i64 x.a3) := hc k x 3 _ hx rfl
      have c0 : wr.cell? ⟨b, o + k * 4, none⟩ = some (.int .i64 x.a0) := c0
      have e1 : ds.getD k ⟨0, 0, 0, 0⟩ = x := getD_ok hx
      have E1 := Lib.hid e1
      have hsz := hb.out.size
      have BA := Lib.hid (below_more hb.out ((Below.refl wr.heap.size wr).alloc (Nat.le_refl _) (.cells #[.int .i64 x.a0, .int .i64 x.a1, .int .i64 x.a2, .int .i64 x.a3] 39)) (Nat.le_refl _))
      have KN := Blk.new wr 39 #[.int .i64 x.a0, .int .i64 x.a1, .int .i64 x.a2, .int .i64 x.a3]
      clear hc hx hxm e1
      cases hp : cordP x
      · have HX : Hid (cordsB ds = false) := Lib.hid (by rw [HB.out, cordsTo_bad hlt (by rw [E1.out, hp])]; rfl)
        have CV := Lib.hid (fun w => cordvalid_is (a0 := x.a0) (a1 := x.a1) (a2 := x.a2) (a3 := x.a3) hp w)
        clear hp
        go_upto_region 4 with fail
        clear c0 c1 c2 c3
        generalize wr.alloc (.cells #[.int .i64 x.a0, .int .i64 x.a1, .int .i64 x.a2, .int .i64 x.a3] 39) = w1 at BA KN ⊢
        have hc := KN.cell
        go_wp2_with fail
        refine (CV.out _).mono ?_
        rintro r w2 ⟨rfl, hb2⟩
        have B2 := Lib.hid (below_more BA.out hb2 (Nat.le_refl _))
        clear hb2 hc KN BA
        go_wp2
        go_ret
        exact ⟨ret_bool HX.out.symm, B2.out⟩
      · have HT2 : Hid (cordsTo ds (k + 1) = true) := Lib.hid (by rw [cordsTo, HT.out, E1.out, hp]; rfl)
        have CV := Lib.hid (fun w => cordvalid_is (a0 := x.a0) (a1 := x.a1) (a2 := x.a2) (a3 := x.a3) hp w)
        clear hp
        go_upto_region 4 with fail
        clear c0 c1 c2 c3
        generalize wr.alloc (.cells #[.int .i64 x.a0, .int .i64 x.a1, .int .i64 x.a2, .int .i64 x.a3] 39) = w1 at BA KN ⊢
        have hc := KN.cell
        go_wp2_with fail
        refine (CV.out _).mono ?_
        rintro r w2 ⟨rfl, hb2⟩
        have B2 := Lib.hid (below_more BA.out hb2 (Nat.le_refl _))
        clear hb2 hc KN BA
        go_wp2
        go_roundw
        case rel => exact ⟨k + 1, by omega, by go_num, HT2, B2⟩
        case measure => simp [intOf]; omega
    · obtain rfl : k = n := by omega
      have HX : Hid (cordsB ds = decide ((k : Int) ≤ 4)) := Lib.hid (by rw [HB.out, HT.out, Bool.true_and]; exact decide_eq_decide.2 (by omega))
      go_wp2_with ((go_at_call 69; refine (few_any _ _ _ (by omega)).mono ?_; rintro e w' ⟨rfl, rfl⟩))
      go_ret
      exact ⟨ret_bool HX.out.symm, hb.out⟩
set_option maxHeartbeats 1000000 in
theorem cordoneat_is {a0 a1 a2 a3 : Int} {v : Bool} (h : cordB a0 a1 a2 a3 = v) (b o : Nat) (w : World) (c0 : w.cell? ⟨b, o, none⟩ = some (.int .i64 a0)) (c1 : w.cell? ⟨b, o + 1, none⟩ = some (.int .i64 a1)) (c2 : w.cell? ⟨b, o + 2, none⟩ = some (.int .i64 a2)) (c3 : w.cell? ⟨b, o + 3, none⟩ = some (.int .i64 a3)) :
    Calls Try.prog 53 #[.pointer (some ⟨b, o, none⟩)] w fun e w' => e = .returned (.bool v) ∧ w = w' := by
  subst h
  cases h0 : inB a0 1 10000
  · rw [show cordB a0 a1 a2 a3 = false by simp [cordB, h0]]
    go_enter Try.func53, Try.ntmps53
    go_wp2_with ((go_at_call 74; refine (l00In_any _ _ _ _).mono ?_; rintro e w' ⟨rfl, rfl⟩))
    go_ret
    exact ⟨rfl, rfl⟩
  cases h1 : inB a1 1 500
  · rw [show cordB a0 a1 a2 a3 = false by simp [cordB, h1]]
    go_enter Try.func53, Try.ntmps53
    go_wp2_with ((go_at_call 74; refine (l00In_any _ _ _ _).mono ?_; rintro e w' ⟨rfl, rfl⟩))
    go_ret
    exact ⟨rfl, rfl⟩
  cases h2 : inB a2 1 10000
  · rw [show cordB a0 a1 a2 a3 = false by simp [cordB, h2]]
    go_enter Try.func53, Try.ntmps53
    go_wp2_with ((go_at_call 74; refine (l00In_any _ _ _ _).mono ?_; rintro e w' ⟨rfl, rfl⟩))
    go_ret
    exact ⟨rfl, rfl⟩
  cases h3 : inB a3 1 500000
  · rw [show cordB a0 a1 a2 a3 = false by simp [cordB, h3]]
    go_enter Try.func53, Try.ntmps53
    go_wp2_with ((go_at_call 74; refine (l00In_any _ _ _ _).mono ?_; rintro e w' ⟨rfl, rfl⟩))
    go_ret
    exact ⟨rfl, rfl⟩
  rw [show cordB a0 a1 a2 a3 = true by simp [cordB, h0, h1, h2, h3]]
  go_enter Try.func53, Try.ntmps53
  go_wp2_with ((go_at_call 74; refine (l00In_any _ _ _ _).mono ?_; rintro e w' ⟨rfl, rfl⟩))
  go_ret
  exact ⟨rfl, rfl⟩
set_option maxHeartbeats 1000000 in
theorem l09List_any (A : Option Addr) (c n : Nat) (ds : List CordD) (w : World) (hn : ds.length = n) (h : Rd w w.heap.size 4 A n (ds.flatMap cordF)) (hm : n ≤ 1048576) :
    Calls Try.prog 55 #[.slice A n c] w fun e w' => e = .returned (.bool (cordsB ds)) ∧ w = w' := by
  have HN := Lib.hid hn
  have H := Lib.hid h
  have HB : Hid (cordsB ds = (cordsTo ds n && decide (n ≤ 4))) := Lib.hid (by rw [cordsB, hn])
  clear hn h
  go_enter Try.func55, Try.ntmps55
  go_wp2
  go_loop [3] (fun i => ∃ k : Nat, k ≤ n ∧ i = .int .i64 k ∧ Hid (cordsTo ds k = true)) (fun i => n - (intOf i).toNat)
  case atStart => exact ⟨0, Nat.zero_le _, rfl, Lib.hid rfl⟩
  case round =>
    obtain ⟨k, hk, rfl, HT⟩ := hrel
    by_cases hlt : k < n
    · obtain ⟨x, hx, hxm⟩ := getD_of (l := ds) (i := k) (by rw [HN.out]; exact hlt)
      obtain ⟨b, o, rfl, hbB, hc⟩ := H.out.at_ cordF_len (by omega)
      have c0 := Lib.hid (hc k x 0 _ hx rfl)
      have c1 := Lib.hid (hc k x 1 _ hx rfl)
      have c2 := Lib.hid (hc k x 2 _ hx rfl)
      have c3 := Lib.hid (hc k x 3 _ hx rfl)
      have E1 := Lib.hid (getD_ok (d := ⟨0, 0, 0, 0⟩) hx)
      clear hc hx hxm
      cases hp : cordP x
      · have HX : Hid (cordsB ds = false) := Lib.hid (by rw [HB.out, cordsTo_bad hlt (by rw [E1.out, hp])]; rfl)
        have CV := cordoneat_is (a0 := x.a0) (a1 := x.a1) (a2 := x.a2) (a3 := x.a3) hp b (o + k * 4) w c0.out c1.out c2.out c3.out
        clear hp
        go_wp2_with ((go_at_call 53; refine (CV).mono ?_; rintro e w' ⟨rfl, rfl⟩))
        go_ret
        exact ⟨ret_bool HX.out.symm, rfl⟩
      · have HT2 : Hid (cordsTo ds (k + 1) = true) := Lib.hid (by rw [cordsTo, HT.out, E1.out, hp]; rfl)
        have CV := cordoneat_is (a0 := x.a0) (a1 := x.a1) (a2 := x.a2) (a3 := x.a3) hp b (o + k * 4) w c0.out c1.out c2.out c3.out
        clear hp
        go_wp2_with ((go_at_call 53; refine (CV).mono ?_; rintro e w' ⟨rfl, rfl⟩))
        go_round
        case rel => exact ⟨k + 1, by omega, by go_num, HT2⟩
        case measure => simp [intOf]; omega
    · obtain rfl : k = n := by omega
      have HX : Hid (cordsB ds = decide ((k : Int) ≤ 4)) := Lib.hid (by rw [HB.out, HT.out, Bool.true_and]; exact decide_eq_decide.2 (by omega))
      go_wp2
      go_ret
      exact ⟨ret_bool HX.out.symm, rfl⟩
set_option maxHeartbeats 2000000 in
theorem areGauges_any (LA GA : Option Addr) (lc gc n m : Nat) (gs : List (List Int)) (w : World) (h : Rd2 w 0 w.heap.size GA m gs) (hm : m ≤ 1048576) (hr : ∀ r ∈ gs, r.length ≤ maxLen) (hn : n ≤ 1048576) :
    Calls Try.prog 81 #[.slice LA n lc, .slice GA m gc] w fun e w' => e = .returned (.bool (decide (m = n) && gTo gs m)) ∧ w = w' := by
  by_cases hnm : m = n
  · subst hnm
    rw [show (decide (m = m) && gTo gs m) = gTo gs m by simp]
    have H := Lib.hid h
    have HL := Lib.hid hr
    have HN := Lib.hid h.1
    clear h hr
    go_enter Try.func81, Try.ntmps81
    go_wp2
    go_loop [16] (fun i => ∃ k : Nat, k ≤ m ∧ i = .int .i64 k ∧ Hid (gTo gs k = true)) (fun i => m - (intOf i).toNat)
    case atStart => exact ⟨0, Nat.zero_le _, rfl, Lib.hid rfl⟩
    case round =>
      obtain ⟨k, hk, rfl, HT⟩ := hrel
      by_cases hlt : k < m
      · obtain ⟨r, hr, hrm⟩ := getD_of (l := gs) (i := k) (by rw [HN.out]; exact hlt)
        obtain ⟨bg, og, rfl, hbg, hcg⟩ := H.out.at_ (by omega)
        obtain ⟨Ag, cg, hg0, hgr, hgc⟩ := hcg k r hr
        have rl := HL.out r hrm
        unfold maxLen at rl
        have E1 := Lib.hid (getD_ok (d := []) hr)
        have RG := Lib.hid hgr.1
        have hd0 : (0 : Int) ≤ r.length := by omega
        obtain ⟨q, hq⟩ : ∃ q, q = r.length := ⟨_, rfl⟩
        have HQ := Lib.hid hq
        rw [← hq] at rl hg0 RG hd0
        clear hq hcg hgr hgc hr hrm
        by_cases h6 : q ≤ 6
        · have h6' : (q : Int) ≤ 6 := by omega
          go_wp2_with ((go_at_call 69; refine (few_any _ _ _ (by omega)).mono ?_; rintro e w' ⟨rfl, rfl⟩))
          go_loop [26] (fun i => ∃ j : Nat, j ≤ q ∧ i = .int .i64 j ∧ Hid (rzTo r j = true)) (fun i => q - (intOf i).toNat)
          case atStart => exact ⟨0, Nat.zero_le _, rfl, Lib.hid rfl⟩
          case round =>
            obtain ⟨j, hj, rfl, HJ⟩ := hrel
            by_cases hlt2 : j < q
            · obtain ⟨z, hz, hzm⟩ := getD_of (l := r) (i := j) (by rw [← HQ.out]; exact hlt2)
              obtain ⟨bz, oz, rfl, hbz, hcz⟩ := RG.out.ints (by omega)
              have z0 := hcz j z hz
              have Z0 := Lib.hid (getD_ok (d := (0 : Int)) hz)
              cases hI : inB z 1 10000
              · have HX : Hid (gTo gs m = false) := Lib.hid (gTo_bad hlt (by rw [E1.out, rowG, rzTo_bad (k := j) (by rw [← HQ.out]; exact hlt2) (by rw [rzAt, Z0.out, hI]; rfl)]; rfl))
                clear hcz hz hzm
                go_wp2_with ((go_at_call 66; refine (within_any _ _ _ _).mono ?_; rintro e w' ⟨rfl, rfl⟩))
                go_ret
                exact ⟨ret_bool HX.out.symm, rfl⟩
              · by_cases j0 : j = 0
                · have HJ2 : Hid (rzTo r (j + 1) = true) := Lib.hid (by rw [rzTo, HJ.out, rzAt, Z0.out, hI, j0]; rfl)
                  clear hcz hz hzm
                  subst j0
                  have z1 : w.cell? ⟨bz, oz, none⟩ = some (.int .i64 z) := z0
                  go_wp2_with ((go_at_call 66; refine (within_any _ _ _ _).mono ?_; rintro e w' ⟨rfl, rfl⟩))
                  go_round
                  case rel => exact ⟨0 + 1, by omega, by go_num, HJ2⟩
                  case measure => simp [intOf]; omega
                · obtain ⟨y, hy, hym⟩ := getD_of (l := r) (i := j - 1) (by rw [← HQ.out]; omega)
                  have y0 := hcz (j - 1) y hy
                  have Y0 := Lib.hid (getD_ok (d := (0 : Int)) hy)
                  have w1 : IntKind.i64.wrap ((j : Int) - 1) = ((j - 1 : Nat) : Int) := by rw [IntWalk.i64_in _ (by omega)]; omega
                  obtain ⟨i', hi'⟩ : ∃ i', i' = j - 1 := ⟨_, rfl⟩
                  have e9 : (j : Int) - 1 = i' := by omega
                  rw [← hi'] at y0 w1
                  have HI' := Lib.hid hi'
                  have hj0 : (0 : Int) < j := by omega
                  have J0 := Lib.hid j0
                  clear hi' hcz hz hzm hy hym j0
                  by_cases hle : z ≤ y
                  · have HX : Hid (gTo gs m = false) := Lib.hid (gTo_bad hlt (by rw [E1.out, rowG, rzTo_bad (k := j) (by rw [← HQ.out]; exact hlt2) (by rw [rzAt, Z0.out, hI, Y0.out]; simp; exact ⟨J0.out, hle⟩)]; rfl))
                    go_wp2_with ((go_at_call 66; refine (within_any _ _ _ _).mono ?_; rintro e w' ⟨rfl, rfl⟩))
                    go_ret
                    exact ⟨ret_bool HX.out.symm, rfl⟩
                  · have HJ2 : Hid (rzTo r (j + 1) = true) := Lib.hid (by rw [rzTo, HJ.out, rzAt, Z0.out, hI, Y0.out]; simp; right; omega)
                    go_wp2_with ((go_at_call 66; refine (within_any _ _ _ _).mono ?_; rintro e w' ⟨rfl, rfl⟩))
                    go_round
                    case rel => exact ⟨j + 1, by omega, by go_num, HJ2⟩
                    case measure => simp [intOf]; omega
            · obtain rfl : j = q := by omega
              have HK2 : Hid (gTo gs (k + 1) = true) := Lib.hid (by rw [gTo, HT.out, E1.out, rowG, ← HQ.out, HJ.out]; simp; exact h6)
              go_wp2
              go_round
              case rel => exact ⟨k + 1, by omega, by go_num, HK2⟩
              case measure => simp [intOf]; omega
        · have h6' : ¬ (q : Int) ≤ 6 := by omega
          have HX : Hid (gTo gs m = false) := Lib.hid (gTo_bad hlt (by rw [E1.out, rowG, ← HQ.out, decide_eq_false h6, Bool.and_false]))
          have CF := few_any q 6 w (by omega)
          rw [decide_eq_false h6'] at CF
          clear h6 h6'
          go_wp2_with ((go_at_call 69; refine (CF).mono ?_; rintro e w' ⟨rfl, rfl⟩))
          go_ret
          exact ⟨ret_bool HX.out.symm, rfl⟩
      · obtain rfl : k = m := by omega
        go_wp2
        go_ret
        exact ⟨ret_bool HT.out.symm, rfl⟩
  · rw [show (decide (m = n) && gTo gs m) = false by simp [hnm]]
    have hne : ((m : Int) == n) = false := by rw [Bool.eq_false_iff]; simp; omega
    have hne2 : ((m : Int) != n) = true := by rw [bne, hne]; rfl
    go_enter Try.func81, Try.ntmps81
    go_wp2
    go_ret
    exact ⟨rfl, rfl⟩
set_option maxHeartbeats 1000000 in
theorem l00Rises_any (A : Option Addr) (c q : Nat) (r : List Int) (w : World) (h : Rd w w.heap.size 1 A q (iv r)) (hq : q ≤ maxLen) :
    Calls Try.prog 87 #[.slice A q c, .int .i64 1, .int .i64 10000] w fun e w' => e = .returned (.bool (rzTo r q)) ∧ Below w.heap.size w w' := by
  have HQ := Lib.hid h.len
  have H := Lib.hid h
  unfold maxLen at hq
  clear h
  go_enter Try.func87, Try.ntmps87
  go_wp2
  go_loopw [7] (fun i wr => ∃ j : Nat, j ≤ q ∧ i = .int .i64 j ∧ Hid (rzTo r j = true) ∧ Hid (Below w.heap.size w wr)) (fun i _ => q - (intOf i).toNat)
  case atStart => exact ⟨0, Nat.zero_le _, rfl, Lib.hid rfl, Lib.hid (Below.refl _ _)⟩
  case round =>
    obtain ⟨j, hj, rfl, HJ, hb⟩ := hrel
    have hsz := hb.out.size
    by_cases hlt2 : j < q
    · obtain ⟨z, hz, hzm⟩ := getD_of (l := r) (i := j) (by rw [HQ.out]; exact hlt2)
      obtain ⟨bz, oz, rfl, hbz, hcz⟩ := H.out.ints (by omega)
      have z0 := bel_at (B := wr.heap.size) ((hb.out.cell (p := ⟨bz, oz + j, none⟩) hbz).trans (hcz j z hz)) (by omega)
      have Z0 := Lib.hid (getD_ok (d := (0 : Int)) hz)
      have j0' : (0 : Int) ≤ j := by omega
      have j1' : (j : Int) < q := by omega
      cases hI : inB z 1 10000
      · have HX : Hid (rzTo r q = false) := Lib.hid (rzTo_bad hlt2 (by rw [rzAt, Z0.out, hI]; rfl))
        clear hcz hz hzm
        go_wp2_with fail
        (refine wp_region_bel wr.heap.size wr (Below.refl _ _) (by kernel_rfl) (by kernel_rfl) ?_; (repeat (go_big_quiet_step ((first | (go_at_call 74; exact bel_same (l00In_any _ _ _ _)))))); refine wpQuiet_nil ?_; rintro wx ⟨⟨_, hbx⟩, rfl⟩)
        have B4 := Lib.hid (below_more hb.out hbx (Nat.le_refl _))
        clear z0 hbx
        go_wp2
        go_ret
        exact ⟨ret_bool HX.out.symm, B4.out⟩
      · by_cases j0 : j = 0
        · have HJ2 : Hid (rzTo r (j + 1) = true) := Lib.hid (by rw [rzTo, HJ.out, rzAt, Z0.out, hI, j0]; rfl)
          have g5 : decide ((0 : Int) < j) = false := decide_eq_false (by omega)
          have g9 : decide (0 < j) = false := decide_eq_false (by omega)
          clear hcz hz hzm j0
          go_wp2_with fail
          (refine wp_region_bel wr.heap.size wr (Below.refl _ _) (by kernel_rfl) (by kernel_rfl) ?_; (repeat (go_big_quiet_step ((first | (go_at_call 74; exact bel_same (l00In_any _ _ _ _)))))); refine wpQuiet_nil ?_; rintro wx ⟨⟨_, hbx⟩, rfl⟩)
          have B4 := Lib.hid (below_more hb.out hbx (Nat.le_refl _))
          clear z0 hbx
          go_wp2
          go_roundw
          case rel => exact ⟨j + 1, by omega, by go_num, HJ2, B4⟩
          case measure => simp [intOf]; omega
        · obtain ⟨y, hy, hym⟩ := getD_of (l := r) (i := j - 1) (by rw [HQ.out]; omega)
          have Y0 := Lib.hid (getD_ok (d := (0 : Int)) hy)
          have w1 : IntKind.i64.wrap ((j : Int) - 1) = ((j - 1 : Nat) : Int) := by rw [IntWalk.i64_in _ (by omega)]; omega
          have y0 := bel_at (B := wr.heap.size) ((hb.out.cell (p := ⟨bz, oz + (j - 1), none⟩) hbz).trans (hcz (j - 1) y hy)) (by omega)
          have J0 := Lib.hid j0
          obtain ⟨i', hi'⟩ : ∃ i', i' = j - 1 := ⟨_, rfl⟩
          rw [← hi'] at y0 w1
          have g7 : (0 : Int) ≤ i' := by omega
          have g8 : (i' : Int) < q := by omega
          have g5 : decide ((0 : Int) < j) = true := decide_eq_true (by omega)
          have g9 : decide (0 < j) = true := decide_eq_true (by omega)
          clear hi' hcz hz hzm hy hym j0
          by_cases hle : z ≤ y
          · have HX : Hid (rzTo r q = false) := Lib.hid (rzTo_bad hlt2 (by rw [rzAt, Z0.out, hI, Y0.out]; simp; exact ⟨J0.out, hle⟩))
            have g6 : decide (z ≤ y) = true := decide_eq_true hle
            go_wp2_with fail
            (refine wp_region_bel wr.heap.size wr (Below.refl _ _) (by kernel_rfl) (by kernel_rfl) ?_; (repeat (go_big_quiet_step ((first | (go_at_call 74; exact bel_same (l00In_any _ _ _ _)))))); refine wpQuiet_nil ?_; rintro wx ⟨⟨_, hbx⟩, rfl⟩)
            have B4 := Lib.hid (below_more hb.out hbx (Nat.le_refl _))
            clear z0 y0 hbx
            go_wp2
            go_ret
            exact ⟨ret_bool HX.out.symm, B4.out⟩
          · have HJ2 : Hid (rzTo r (j + 1) = true) := Lib.hid (by rw [rzTo, HJ.out, rzAt, Z0.out, hI, Y0.out]; simp; right; omega)
            have g6 : decide (z ≤ y) = false := decide_eq_false hle
            go_wp2_with fail
            (refine wp_region_bel wr.heap.size wr (Below.refl _ _) (by kernel_rfl) (by kernel_rfl) ?_; (repeat (go_big_quiet_step ((first | (go_at_call 74; exact bel_same (l00In_any _ _ _ _)))))); refine wpQuiet_nil ?_; rintro wx ⟨⟨_, hbx⟩, rfl⟩)
            have B4 := Lib.hid (below_more hb.out hbx (Nat.le_refl _))
            clear z0 y0 hbx
            go_wp2
            go_roundw
            case rel => exact ⟨j + 1, by omega, by go_num, HJ2, B4⟩
            case measure => simp [intOf]; omega
    · obtain rfl : j = q := by omega
      go_wp2
      go_ret
      exact ⟨ret_bool HJ.out.symm, hb.out⟩
end Go.Proofs.Ytemkggecempmgaa
