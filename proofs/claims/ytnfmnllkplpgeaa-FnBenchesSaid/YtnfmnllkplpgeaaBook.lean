/- BookDays. -/
import Derived.Test.YtnfmnllkplpgeaaCopy
import Derived.Test.YtnfmnllkplpgeaaFree
import Derived.Test.YtnfmnllkplpgeaaLoads
set_option linter.unusedVariables false
namespace Go.Proofs.Ytnfmnllkplpgeaa
open Go.RowKit

def BookDays_L (rs : List (List Int)) (bn fr dy wk : Int) : List (List Int) × Int :=
  if planB rs = true then
    (if (atB bn rs.length && (inB fr 0 39 && (inB dy 1 40 && (inB wk 1 8 && decide (fr + dy ≤ 40))))) = true then
      (if freeB (rs.getD bn.toNat []) fr.toNat dy.toNat = true then (rs.set bn.toNat (fillTo (rs.getD bn.toNat []) fr.toNat wk dy.toNat), 0) else ([], 6))
    else ([], 2))
  else ([], 1)
theorem tot_40 {rs : List (List Int)} (h : ∀ r ∈ rs, r.length ≤ 40) : tot rs ≤ 40 * rs.length := by
  induction rs with
  | nil => simp [tot]
  | cons r rs ih =>
    have a := h r (by simp)
    have b := ih fun q hq => h q (by simp [hq])
    simp [tot]; omega
theorem rows_bd {rs : List (List Int)} (h : ∀ r ∈ rs, r.length ≤ 40) (hn : rs.length ≤ 6) : rs.length ≤ maxLen ∧ (∀ r ∈ rs, r.length ≤ maxLen) ∧ tot rs ≤ 1000000 := by
  have := tot_40 h
  refine ⟨by unfold maxLen; omega, fun r hr => by have := h r hr; unfold maxLen; omega, by omega⟩
theorem set_rows {rs : List (List Int)} {i : Nat} {r : List Int} (h : ∀ r ∈ rs, r.length = 40) (hr : r.length = 40) : ∀ q ∈ rs.set i r, q.length = 40 := by
  intro q hq
  rcases List.mem_or_eq_of_mem_set hq with a | a
  · exact h q a
  · rw [a]; exact hr
theorem BookDays_bd (rs : List (List Int)) (bn fr dy wk : Int) : (BookDays_L rs bn fr dy wk).1.length ≤ maxLen ∧ (∀ r ∈ (BookDays_L rs bn fr dy wk).1, r.length ≤ maxLen) ∧ tot (BookDays_L rs bn fr dy wk).1 ≤ 1000000 := by
  have em : ([] : List (List Int)).length ≤ maxLen ∧ (∀ r ∈ ([] : List (List Int)), r.length ≤ maxLen) ∧ tot [] ≤ 1000000 := rows_bd (by simp) (by simp)
  unfold BookDays_L
  split
  · rename_i hp
    have P := planB_t hp
    split
    · rename_i hc
      split
      · simp only [Bool.and_eq_true] at hc
        have qb := atB_t hc.1
        obtain ⟨r, hx, hxm⟩ := getD_of (l := rs) (i := bn.toNat) (by omega)
        refine rows_bd (fun q hq => Nat.le_of_eq (set_rows (fun q hq => (P.2.2 q hq).1) ?_ q hq)) (by simp; omega)
        rw [fillTo_len, getD_is hx]; exact (P.2.2 r hxm).1
      · exact em
    · exact em
  · exact em
set_option maxHeartbeats 4000000 in
theorem BookDays_i (A : Option Addr) (c n : Nat) (rs : List (List Int)) (bn fr dy wk : Int) (w : World) (h : Rd2 w 0 w.heap.size A n rs) (hm : n ≤ maxLen) (hr : ∀ r ∈ rs, r.length ≤ maxLen) :
    Calls Try.prog 6 #[.slice A n c, .int .i64 bn, .int .i64 fr, .int .i64 dy, .int .i64 wk] w (RetSS 29 2 w (BookDays_L rs bn fr dy wk).1 (BookDays_L rs bn fr dy wk).2) := by
  have HV := Lib.hid (ValidPlan_i A c n _ _ rs w h hm hr)
  have HN := Lib.hid h.1
  have H := Lib.hid h
  have m2 := hm
  unfold maxLen at m2
  cases hp : planB rs
  · rw [show BookDays_L rs bn fr dy wk = ([], 1) by simp [BookDays_L, hp]]
    go_enter Try.func6, Try.ntmps6
    go_wp2_with fail
    refine HV.out.mono ?_
    rw [hp]
    rintro r w' ⟨rfl, rfl⟩
    go_wp2_with (first | (go_at_call 23; refine (at_any _ _ _ (by omega)).mono ?_; rintro e w' ⟨rfl, rfl⟩) | (go_at_call 24; refine (isDate_any _ _).mono ?_; rintro e w' ⟨rfl, rfl⟩) | (go_at_call 25; refine (isSpan_any _ _).mono ?_; rintro e w' ⟨rfl, rfl⟩) | (go_at_call 26; refine (isWork_any _ _).mono ?_; rintro e w' ⟨rfl, rfl⟩))
    go_ret2
    exact ret_SS rfl rfl (own2_nil _ _ _ _ _) (Below.refl _ _)
  cases g1 : atB bn n
  · rw [show BookDays_L rs bn fr dy wk = ([], 2) by simp [BookDays_L, hp, g1, HN.out]]
    go_enter Try.func6, Try.ntmps6
    go_wp2_with fail
    refine HV.out.mono ?_
    rw [hp]
    rintro r w' ⟨rfl, rfl⟩
    go_wp2_with (first | (go_at_call 23; refine (at_any _ _ _ (by omega)).mono ?_; rintro e w' ⟨rfl, rfl⟩) | (go_at_call 24; refine (isDate_any _ _).mono ?_; rintro e w' ⟨rfl, rfl⟩) | (go_at_call 25; refine (isSpan_any _ _).mono ?_; rintro e w' ⟨rfl, rfl⟩) | (go_at_call 26; refine (isWork_any _ _).mono ?_; rintro e w' ⟨rfl, rfl⟩))
    go_ret2
    exact ret_SS rfl rfl (own2_nil _ _ _ _ _) (Below.refl _ _)
  cases g2 : inB fr 0 39
  · rw [show BookDays_L rs bn fr dy wk = ([], 2) by simp [BookDays_L, hp, g2, HN.out]]
    go_enter Try.func6, Try.ntmps6
    go_wp2_with fail
    refine HV.out.mono ?_
    rw [hp]
    rintro r w' ⟨rfl, rfl⟩
    go_wp2_with (first | (go_at_call 23; refine (at_any _ _ _ (by omega)).mono ?_; rintro e w' ⟨rfl, rfl⟩) | (go_at_call 24; refine (isDate_any _ _).mono ?_; rintro e w' ⟨rfl, rfl⟩) | (go_at_call 25; refine (isSpan_any _ _).mono ?_; rintro e w' ⟨rfl, rfl⟩) | (go_at_call 26; refine (isWork_any _ _).mono ?_; rintro e w' ⟨rfl, rfl⟩))
    go_ret2
    exact ret_SS rfl rfl (own2_nil _ _ _ _ _) (Below.refl _ _)
  cases g3 : inB dy 1 40
  · rw [show BookDays_L rs bn fr dy wk = ([], 2) by simp [BookDays_L, hp, g3, HN.out]]
    go_enter Try.func6, Try.ntmps6
    go_wp2_with fail
    refine HV.out.mono ?_
    rw [hp]
    rintro r w' ⟨rfl, rfl⟩
    go_wp2_with (first | (go_at_call 23; refine (at_any _ _ _ (by omega)).mono ?_; rintro e w' ⟨rfl, rfl⟩) | (go_at_call 24; refine (isDate_any _ _).mono ?_; rintro e w' ⟨rfl, rfl⟩) | (go_at_call 25; refine (isSpan_any _ _).mono ?_; rintro e w' ⟨rfl, rfl⟩) | (go_at_call 26; refine (isWork_any _ _).mono ?_; rintro e w' ⟨rfl, rfl⟩))
    go_ret2
    exact ret_SS rfl rfl (own2_nil _ _ _ _ _) (Below.refl _ _)
  cases g4 : inB wk 1 8
  · rw [show BookDays_L rs bn fr dy wk = ([], 2) by simp [BookDays_L, hp, g4, HN.out]]
    go_enter Try.func6, Try.ntmps6
    go_wp2_with fail
    refine HV.out.mono ?_
    rw [hp]
    rintro r w' ⟨rfl, rfl⟩
    go_wp2_with (first | (go_at_call 23; refine (at_any _ _ _ (by omega)).mono ?_; rintro e w' ⟨rfl, rfl⟩) | (go_at_call 24; refine (isDate_any _ _).mono ?_; rintro e w' ⟨rfl, rfl⟩) | (go_at_call 25; refine (isSpan_any _ _).mono ?_; rintro e w' ⟨rfl, rfl⟩) | (go_at_call 26; refine (isWork_any _ _).mono ?_; rintro e w' ⟨rfl, rfl⟩))
    go_ret2
    exact ret_SS rfl rfl (own2_nil _ _ _ _ _) (Below.refl _ _)
  have qb := atB_t g1
  have q2 := inB_t g2
  have q3 := inB_t g3
  by_cases g5 : fr + dy ≤ 40
  · obtain ⟨r, hx, hxm⟩ := getD_of (l := rs) (i := bn.toNat) (by rw [HN.out]; omega)
    have P := planB_t hp
    have n6 : n ≤ 6 := by have := P.2.1; rw [HN.out] at this; exact this
    have h40 := (P.2.2 r hxm).1
    obtain ⟨bb, rfl⟩ : ∃ k : Nat, bn = k := ⟨bn.toNat, by omega⟩
    obtain ⟨d, rfl⟩ : ∃ k : Nat, fr = k := ⟨fr.toNat, by omega⟩
    obtain ⟨m, rfl⟩ : ∃ k : Nat, dy = k := ⟨dy.toNat, by omega⟩
    rw [Int.toNat_natCast] at hx
    have hm1 : 1 ≤ m := by omega
    have hm2 : m ≤ 40 := by omega
    have hfd : d ≤ 39 := by omega
    have HX := Lib.hid hx
    have H40 := Lib.hid h40
    have HP : Hid (∀ r ∈ rs, r.length ≤ 1048576 ∧ 0 < r.length) := Lib.hid fun q hq => by have := (P.2.2 q hq).1; omega
    obtain ⟨b, o, rfl, hbB, hc⟩ := H.out.at_ (by omega)
    obtain ⟨Ai, ci, c0, hRi, hcap⟩ := hc bb r hx
    rw [h40] at c0 hRi hcap
    have HRi := Lib.hid hRi.1
    have hpn := hp
    cases g6 : freeB r d m
    · rw [show BookDays_L rs bb d m wk = ([], 6) by simp only [BookDays_L, hp, HN.out, g1, g2, g3, g4, g5, Int.toNat_natCast, getD_is HX.out, g6]; simp]
      clear P h hr hx hxm h40 hc hRi
      go_enter Try.func6, Try.ntmps6
      go_wp2_with fail
      refine HV.out.mono ?_
      rw [hpn]
      rintro r w' ⟨rfl, rfl⟩
      go_wp2_with (first | (go_at_call 23; refine (at_any _ _ _ (by omega)).mono ?_; rintro e w' ⟨rfl, rfl⟩) | (go_at_call 24; refine (isDate_any _ _).mono ?_; rintro e w' ⟨rfl, rfl⟩) | (go_at_call 25; refine (isSpan_any _ _).mono ?_; rintro e w' ⟨rfl, rfl⟩) | (go_at_call 26; refine (isWork_any _ _).mono ?_; rintro e w' ⟨rfl, rfl⟩) | (go_at_call 27; refine (free_any _ _ _ _ _ r _ HRi.out hcap hfd hm1 hm2).mono ?_; rintro e w' ⟨rfl, rfl⟩))
      go_ret2
      exact ret_SS rfl rfl (own2_nil _ _ _ _ _) (Below.refl _ _)
    · rw [show BookDays_L rs bb d m wk = (rs.set bb (fillTo r d wk m), 0) by simp only [BookDays_L, hp, HN.out, g1, g2, g3, g4, g5, Int.toNat_natCast, getD_is HX.out, g6]; simp]
      clear P h hr hx hxm h40 hc hRi
      go_enter Try.func6, Try.ntmps6
      go_wp2_with fail
      refine HV.out.mono ?_
      rw [hpn]
      rintro r w' ⟨rfl, rfl⟩
      go_wp2_with (first | (go_at_call 23; refine (at_any _ _ _ (by omega)).mono ?_; rintro e w' ⟨rfl, rfl⟩) | (go_at_call 24; refine (isDate_any _ _).mono ?_; rintro e w' ⟨rfl, rfl⟩) | (go_at_call 25; refine (isSpan_any _ _).mono ?_; rintro e w' ⟨rfl, rfl⟩) | (go_at_call 26; refine (isWork_any _ _).mono ?_; rintro e w' ⟨rfl, rfl⟩) | (go_at_call 27; refine (free_any _ _ _ _ _ r _ HRi.out hcap hfd hm1 hm2).mono ?_; rintro e w' ⟨rfl, rfl⟩))
      refine (copyPlan_i _ _ n rs _ H.out HP.out (by omega)).mono ?_
      rintro e w1 ⟨v, rfl, ho1, hb1⟩
      rw [HN.out] at ho1
      obtain ⟨A1, c1, rfl⟩ := own2_val ho1
      obtain ⟨g, Aj, cj, rfl, k0, hoj, hkj, hput⟩ := ho1.where_ (by decide) HX.out
      rw [H40.out] at k0 hoj hput hkj
      have HOJ := Lib.hid hoj
      have HPUT := Lib.hid hput
      have HKJ := Lib.hid hkj
      have b1 := Lib.hid hb1
      have s1 := hb1.size
      clear c0 ho1 hb1 hoj hput hkj hp g1 g2 g3 g4 g6 hpn
      go_wp2_with fail
      refine (fill_i _ _ 40 d m _ wk r _ HOJ.out (by omega) (by omega)).mono ?_
      rintro e w2 ⟨rfl, ho2, hg2⟩
      have M2 := Lib.hid ((HPUT.out w2 (fillTo r d wk m) (by rw [fillTo_len, H40.out]) hg2 ho2).more hg2.size)
      have b2 := Lib.hid (b1.out.grown hg2 s1 fun k hk => (HKJ.out k hk).1)
      clear ho2 hg2 HOJ HPUT k0
      go_wp2
      go_ret2
      exact ret_SS rfl rfl (by rw [List.length_set, HN.out]; exact M2.out) b2.out
  · rw [show BookDays_L rs bn fr dy wk = ([], 2) by simp [BookDays_L, hp, g5]]
    have g5' : 40 < fr + dy := by omega
    clear g5
    go_enter Try.func6, Try.ntmps6
    go_wp2_with fail
    refine HV.out.mono ?_
    rw [hp]
    rintro r w' ⟨rfl, rfl⟩
    go_wp2_with (first | (go_at_call 23; refine (at_any _ _ _ (by omega)).mono ?_; rintro e w' ⟨rfl, rfl⟩) | (go_at_call 24; refine (isDate_any _ _).mono ?_; rintro e w' ⟨rfl, rfl⟩) | (go_at_call 25; refine (isSpan_any _ _).mono ?_; rintro e w' ⟨rfl, rfl⟩) | (go_at_call 26; refine (isWork_any _ _).mono ?_; rintro e w' ⟨rfl, rfl⟩))
    go_ret2
    exact ret_SS rfl rfl (own2_nil _ _ _ _ _) (Below.refl _ _)
end Go.Proofs.Ytnfmnllkplpgeaa
