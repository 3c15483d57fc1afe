/- Pairs of planks: the program's search where all have a partner. -/
import Derived.Test.YtoodlpgamlelaaaPairI
import Derived.StillTailTactics
set_option linter.unusedVariables false
set_option linter.unusedSimpArgs false
namespace Go.Proofs.Ytoodlpgamlelaaa
open Go.RowKit

theorem own_valP {w : World} {L n k : Nat} {t : TypeId} {v : Value} {xs : List Value} (h : w.ownsRow L t k v n xs) : ∃ A c, v = .slice A n c := by
  rcases h.2 with ⟨rfl, rfl⟩ | ⟨g, cap, cur, rfl, _⟩
  · exact ⟨none, 0, rfl⟩
  · exact ⟨_, _, rfl⟩
def c0P : PlankD := ⟨ByteArray.empty, 0, 0, 0, 0, 0⟩
def gpL (ds : List PlankD) (i k : Nat) : Int := gapL (ds.getD i c0P) (ds.getD k c0P)
/-- what a search is told -/
structure PairH (ds : List PlankD) (g gu L B : Nat) (LA : Option Addr) (n lc uc d : Nat) (w : World) (us : List Bool) (prs : List (Nat × Nat)) (sum : Int) (st : PSt) (v1 v3 : Value) : Prop where
  at_ : PAt g gu L LA n lc uc w us prs sum st v1 v3
  ul : us.length = n
  un : unus us = 2 * d
  pd : prs.length + d ≤ 8
  s0 : 0 ≤ sum
  s1 : sum ≤ 200000000000 * prs.length
  lf : st.left ≤ 2000000000
  rd : Rd w B 6 LA n (ds.flatMap plankF)
  bg : B ≤ g
  bu : B ≤ gu
  bL : B ≤ L
  lw : L ≤ w.heap.size
section
variable {g gu L : Nat} {LA : Option Addr} {n lc uc : Nat} {w w' : World} {us : List Bool} {prs : List (Nat × Nat)} {sum : Int} {v1 v3 : Value}
/-- the best that is found is laid down -/
theorem PAt.found {l : Nat} {b0 : List (Nat × Nat)} {l0 : Int} {s0 : Bool} (h : PAt g gu L LA n lc uc w us prs sum ⟨l, b0, l0, s0⟩ v1 v3) {v : Value} {L' : Nat} (ov : w.ownsRow L' 53 2 v prs.length (pfl prs)) (hL : L ≤ L') (hd : ∀ k, v1.ownBlock = some k → v.ownBlock ≠ some k) :
    PAt g gu L LA n lc uc (((w.setCell ⟨g, 5, none⟩ v).setCell ⟨g, 6, none⟩ (.int .i64 sum)).setCell ⟨g, 7, none⟩ (.bool true)) us prs sum ⟨l, prs, sum, true⟩ v1 v := by
  have k3 := ((h.k.set_ 5 v).set_ 6 (.int .i64 sum)).set_ 7 (.bool true)
  simp at k3
  have ne : gu ≠ g := fun e => h.neu e.symm
  have nv := own_neK ov h.k (by decide)
  have n1 := own_neK h.o1 h.k (by decide)
  refine ⟨k3, ((h.u.far (p := ⟨g, 5, none⟩) ne v).far (p := ⟨g, 6, none⟩) ne _).far (p := ⟨g, 7, none⟩) ne _, own_farK (own_farK (own_farK h.o1 n1 _) n1 _) n1 _, ?_, hd⟩
  refine own_farK (own_farK (own_farK ?_ nv _) nv _) nv _
  refine ⟨ov.1, ?_⟩
  rcases ov.2 with hn | ⟨q, cap, cur, hv, hb, rest⟩
  · exact .inl hn
  · exact .inr ⟨q, cap, cur, hv, by omega, rest⟩
end
section
variable (ds : List PlankD) (g gu L B : Nat) (LA : Option Addr) (n lc uc : Nat)
set_option maxRecDepth 100000 in
set_option maxHeartbeats 8000000 in
theorem psearch_z (n16 : n ≤ 16) (w : World) (us : List Bool) (prs : List (Nat × Nat)) (sum : Int) (st : PSt) (v1 v3 : Value) (h : PairH ds g gu L B LA n lc uc 0 w us prs sum st v1 v3) :
    Calls Try.prog 21 #[.pointer (some ⟨g, 0, none⟩)] w (PairE g gu L LA n lc uc w us prs sum v1 (psrch (gpL ds) 0 us prs sum st)) := by
  obtain ⟨left, best, least, solved⟩ := st
  have K := h.at_
  have UA := Lib.hid (unus_zero h.un)
  have UL := Lib.hid h.ul
  have sb : 0 ≤ sum ∧ sum ≤ 1600000000000 := by have := h.s0; have := h.s1; have := h.pd; omega
  have lf : left ≤ 2000000000 := h.lf
  have pn : prs.length ≤ 1000 := by have := h.pd; omega
  have LL := Lib.hid h.lw
  clear h
  obtain ⟨A1, c1, rfl⟩ := own_valP K.o1
  obtain ⟨p, hp⟩ : ∃ p, p = prs.length := ⟨_, rfl⟩
  have HP := Lib.hid hp
  by_cases l0 : left = 0
  · subst l0
    have HE : Hid (psrch (gpL ds) 0 us prs sum ⟨0, best, least, solved⟩ = none) := Lib.hid (by rw [psrch]; rfl)
    have hc := K.k.cell
    have KK := Lib.hid K
    clear K hp
    go_enter Try.func21, Try.ntmps21
    go_wp2
    go_ret
    exact ⟨_, _, v3, by rw [HE.out]; rfl, (by rw [HE.out]; intro s2 h; cases h), KK.out, Frm.refl _ _ _ _, Nw.refl _ _⟩
  · obtain ⟨l, hl⟩ : ∃ l, left = l + 1 := ⟨left - 1, by omega⟩
    have e1 : (left : Int) - 1 = l := by omega
    have HL := Lib.hid hl
    have L0 := Lib.hid l0
    clear hl
    have l1 : 1 ≤ (left : Int) := by omega
    have hc := K.k.cell
    have hf := K.k.frozen
    obtain ⟨k2, u2, o12, o32⟩ := K.setg 4 (.int .i64 l)
    simp at k2
    have K2 : Hid (PAt g gu L LA n lc uc (w.setCell ⟨g, 4, none⟩ (.int .i64 l)) us prs sum ⟨l, best, least, solved⟩ (.slice A1 prs.length c1) v3) := Lib.hid ⟨k2, u2, o12, o32, K.d13⟩
    have F2 := Lib.hid (Frm.setg w g 4 (.int .i64 l) (.slice A1 prs.length c1) (.slice (some ⟨gu, 0, none⟩) n uc))
    clear K k2 u2 o12 o32
    rw [← hp] at hc K2 F2 ⊢
    rw [← hp] at pn
    clear hp
    go_enter Try.func21, Try.ntmps21
    go_upto_region 4 with fail
    generalize w.setCell ⟨g, 4, none⟩ (.int .i64 l) = W at K2 F2 ⊢
    clear hc hf
    have hc := K2.out.k.cell
    go_wp2_with fail
    go_loop [3] (fun kv => ∃ k : Nat, k ≤ n ∧ kv = .int .i64 k) (fun kv => n - (intOf kv).toNat)
    case atStart => exact ⟨0, Nat.zero_le _, rfl⟩
    case round =>
      obtain ⟨k, hk, rfl⟩ := hrel
      by_cases hlt : k < n
      · have hu : W.cell? ⟨gu, k, none⟩ = some (.bool true) := by
          rw [K2.out.u.cell k]
          exact bvs_get (frst_true (by rw [UA.out, UL.out]; exact hlt))
        go_wp2_with fail
        go_round
        case rel => exact ⟨k + 1, by omega, by go_num⟩
        case measure => simp [intOf]; omega
      · obtain rfl : n = k := by omega
        have C0 := bel_cell K2.out.k K2.out.k.lt
        cases hso : solved
        · have HE : Hid (psrch (gpL ds) 0 us prs sum ⟨left, best, least, solved⟩ = some ⟨l, prs, sum, true⟩) := Lib.hid (by rw [psrch, if_neg L0.out, leafP, if_pos (.inl hso)]; simp only [HL.out]; rfl)
          subst hso
          go_upto_region 8 with fail
          (refine wp_region_bel W.heap.size W (Below.refl _ _) (by kernel_rfl) (by kernel_rfl) ?_; (repeat (go_big_quiet_step ((first | fail)))); refine wpQuiet_nil ?_; rintro w9 ⟨⟨_, hb9⟩, rfl⟩)
          have K9 := Lib.hid (K2.out.keep hb9)
          have F9 := Lib.hid (F2.out.more (Frm.of_below hb9 g _ _))
          clear hc C0 K2 F2 hb9
          go_upto_region 9 with fail
          refine wp_region_S (S18 g 2 3 4 (.slice A1 p c1) (.int .i64 sum) (.int .i64 l)) 14 (by kernel_rfl) ?_
          have bd : Below w9.heap.size w9 w9.drew := below_drew (Below.refl _ _)
          have K10 := Lib.hid (K9.out.keep bd)
          have F10 := Lib.hid (F9.out.more (Frm.of_below bd g _ _))
          clear bd K9 F9
          generalize w9.drew = wd at K10 F10 ⊢
          have HS : S18 g 2 3 4 (.slice A1 p c1) (.int .i64 sum) (.int .i64 l) wd := ⟨K10.out.k.cell 2, K10.out.k.cell 3, K10.out.k.cell 4⟩
          (refine wpAnyS_take0 0 ?_ rfl (by kernel_rfl) (by kernel_rfl) (by kernel_rfl) (by kernel_rfl) (fun _ _ _ h => h) (by rfl) ?_ (fun _ => HS) ?_; rotate_left; (· (intro w; go_simp; (try with_reducible rfl))); try simp only [Act.put, List.setIfInBounds_toArray, List.set_cons_zero, List.set_cons_succ])
          (refine wpAnyS_take0 1 ?_ rfl (by kernel_rfl) (by kernel_rfl) (by kernel_rfl) (by kernel_rfl) (fun _ _ _ h => h) (by rfl) ?_ (fun _ => HS) ?_; rotate_left; (· (intro w; go_simp; (try with_reducible rfl))); try simp only [Act.put, List.setIfInBounds_toArray, List.set_cons_zero, List.set_cons_succ])
          (refine wpAnyS_take0 2 ?_ rfl (by kernel_rfl) (by kernel_rfl) (by kernel_rfl) (by kernel_rfl) (fun _ _ _ h => h) (by rfl) ?_ (fun _ => HS) ?_; rotate_left; (· (intro w; go_simp; (try with_reducible rfl))); try simp only [Act.put, List.setIfInBounds_toArray, List.set_cons_zero, List.set_cons_succ])
          (refine wpAnyS_take0 3 ?_ rfl (by kernel_rfl) (by kernel_rfl) (by kernel_rfl) (by kernel_rfl) (fun _ _ _ h => h) (by rfl) ?_ (fun _ => HS) ?_; rotate_left; (· (intro w; go_simp; (try with_reducible rfl))); try simp only [Act.put, List.setIfInBounds_toArray, List.set_cons_zero, List.set_cons_succ])
          (refine wpAnyS_take0 4 ?_ rfl (by kernel_rfl) (by kernel_rfl) (by kernel_rfl) (by kernel_rfl) (fun _ _ _ h => h) (by rfl) ?_ (fun _ => HS) ?_; rotate_left; (· (intro w; go_simp; (try with_reducible rfl))); try simp only [Act.put, List.setIfInBounds_toArray, List.set_cons_zero, List.set_cons_succ])
          (refine wpAnyS_take0 5 ?_ rfl (by kernel_rfl) (by kernel_rfl) (by kernel_rfl) (by kernel_rfl) (fun _ _ _ h => h) (by rfl) ?_ (fun _ => HS) ?_; rotate_left; (· (intro w; go_simp; (try with_reducible rfl))); try simp only [Act.put, List.setIfInBounds_toArray, List.set_cons_zero, List.set_cons_succ])
          (refine wpAnyS_take 6 ?_ rfl (by kernel_rfl) (by kernel_rfl) (by kernel_rfl) (by kernel_rfl) (by kernel_rfl) (by kernel_rfl) (fun _ _ _ h => h) (by rfl) ?_ HS ?_; rotate_left; (· (intro w hSw; obtain ⟨s1, s2, s3⟩ := hSw; go_simp; (try with_reducible rfl))); try simp only [Act.put, List.setIfInBounds_toArray, List.set_cons_zero, List.set_cons_succ])
          (refine wpAnyS_take0 8 ?_ rfl (by kernel_rfl) (by kernel_rfl) (by kernel_rfl) (by kernel_rfl) (fun _ _ _ h => h) (by rfl) ?_ (fun _ => HS) ?_; rotate_left; (· (intro w; go_simp; (try with_reducible rfl))); try simp only [Act.put, List.setIfInBounds_toArray, List.set_cons_zero, List.set_cons_succ])
          (refine wpAnyS_take0 9 ?_ rfl (by kernel_rfl) (by kernel_rfl) (by kernel_rfl) (by kernel_rfl) (fun _ _ _ h => h) (by rfl) ?_ (fun _ => HS) ?_; rotate_left; (· (intro w; go_simp; (try with_reducible rfl))); try simp only [Act.put, List.setIfInBounds_toArray, List.set_cons_zero, List.set_cons_succ])
          (refine wpAnyS_take0 10 ?_ rfl (by kernel_rfl) (by kernel_rfl) (by kernel_rfl) (by kernel_rfl) (fun _ _ _ h => h) (by rfl) ?_ (fun _ => HS) ?_; rotate_left; (· (intro w; go_simp; (try with_reducible rfl))); try simp only [Act.put, List.setIfInBounds_toArray, List.set_cons_zero, List.set_cons_succ])
          (refine wpAnyS_take 11 ?_ rfl (by kernel_rfl) (by kernel_rfl) (by kernel_rfl) (by kernel_rfl) (by kernel_rfl) (by kernel_rfl) (fun _ _ _ h => h) (by rfl) ?_ HS ?_; rotate_left; (· (intro w hSw; obtain ⟨s1, s2, s3⟩ := hSw; go_simp; (try with_reducible rfl))); try simp only [Act.put, List.setIfInBounds_toArray, List.set_cons_zero, List.set_cons_succ])
          refine wpAnyS_one 7 rfl (by kernel_rfl) (by rfl) ?_
          intro K hK
          go_simp
          have CC := cloneP_any L p c1 A1 prs wd (by rw [HP.out]; have h := K10.out.o1; rw [HP.out] at h; exact h) (by omega)
          refine CC.mono ?_
          rintro r we ⟨v, rfl, ov, hbe⟩
          obtain ⟨Av, cv, rfl⟩ := own_valP ov
          have K11 := Lib.hid (K10.out.keep hbe)
          have F11 := Lib.hid (F10.out.more (Frm.of_below hbe g _ _))
          have OV := Lib.hid ov
          have LV := Lib.hid (show ∀ k, Value.ownBlock (.slice A1 p c1) = some k → Value.ownBlock (.slice Av prs.length cv) ≠ some k from fun k hk e => by
            have a := (K10.out.o1.lt k hk).2
            have b := (ov.lt k e).1
            omega)
          have LW : Hid (L ≤ wd.heap.size) := Lib.hid (Nat.le_trans LL.out F10.out.size)
          clear CC ov hbe HS K10 F10
          have HS : S18 g 2 3 4 (.slice A1 p c1) (.int .i64 sum) (.int .i64 l) we := ⟨K11.out.k.cell 2, K11.out.k.cell 3, K11.out.k.cell 4⟩
          try simp only [Act.put, List.setIfInBounds_toArray, List.set_cons_zero, List.set_cons_succ]
          refine hK _ _ (fun _ => HS) ?_
          clear hK
          (refine wpAnyS_take0 12 ?_ rfl (by kernel_rfl) (by kernel_rfl) (by kernel_rfl) (by kernel_rfl) (fun _ _ _ h => h) (by rfl) ?_ (fun _ => HS) ?_; rotate_left; (· (intro w; go_simp; (try with_reducible rfl))); try simp only [Act.put, List.setIfInBounds_toArray, List.set_cons_zero, List.set_cons_succ])
          (refine wpAnyS_take0 13 ?_ rfl (by kernel_rfl) (by kernel_rfl) (by kernel_rfl) (by kernel_rfl) (fun _ _ _ h => h) (by rfl) ?_ (fun _ => HS) ?_; rotate_left; (· (intro w; go_simp; (try with_reducible rfl))); try simp only [Act.put, List.setIfInBounds_toArray, List.set_cons_zero, List.set_cons_succ])
          have KF := Lib.hid (K11.out.found OV.out LW.out LV.out)
          have FF := Lib.hid (((F11.out.more (Frm.setg we g 5 (.slice Av prs.length cv) _ _)).more (Frm.setg _ g 6 (.int .i64 sum) _ _)).more (Frm.setg _ g 7 (.bool true) _ _))
          have q5 := K11.out.k.cell 5
          have f5 := K11.out.k.frozen 5
          have q6 := (K11.out.k.set_ 5 (.slice Av prs.length cv)).cell 6
          have f6 := (K11.out.k.set_ 5 (.slice Av prs.length cv)).frozen 6
          have q7 := ((K11.out.k.set_ 5 (.slice Av prs.length cv)).set_ 6 (.int .i64 sum)).cell 7
          have f7 := ((K11.out.k.set_ 5 (.slice Av prs.length cv)).set_ 6 (.int .i64 sum)).frozen 7
          simp at q5 q6 q7
          clear K11 F11 OV LV LW HS
          refine wpAnyS_one 14 rfl (by kernel_rfl) (by rfl) ?_
          intro K hK
          go_simp
          refine hK _ _ (fun h => absurd h (by decide +kernel)) ?_
          clear hK q5 f5
          (refine wpAnyS_take0 15 ?_ rfl (by kernel_rfl) (by kernel_rfl) (by kernel_rfl) (by kernel_rfl) (fun _ _ _ h => h) (by rfl) ?_ (fun h => absurd h (by decide +kernel)) ?_; rotate_left; (· (intro w; go_simp; (try with_reducible rfl))); try simp only [Act.put, List.setIfInBounds_toArray, List.set_cons_zero, List.set_cons_succ])
          (refine wpAnyS_take0 16 ?_ rfl (by kernel_rfl) (by kernel_rfl) (by kernel_rfl) (by kernel_rfl) (fun _ _ _ h => h) (by rfl) ?_ (fun h => absurd h (by decide +kernel)) ?_; rotate_left; (· (intro w; go_simp; (try with_reducible rfl))); try simp only [Act.put, List.setIfInBounds_toArray, List.set_cons_zero, List.set_cons_succ])
          refine wpAnyS_one 17 rfl (by kernel_rfl) (by rfl) ?_
          intro K hK
          go_simp
          refine hK _ _ (fun h => absurd h (by decide +kernel)) ?_
          clear hK q6 f6
          (refine wpAnyS_take0 18 ?_ rfl (by kernel_rfl) (by kernel_rfl) (by kernel_rfl) (by kernel_rfl) (fun _ _ _ h => h) (by rfl) ?_ (fun h => absurd h (by decide +kernel)) ?_; rotate_left; (· (intro w; go_simp; (try with_reducible rfl))); try simp only [Act.put, List.setIfInBounds_toArray, List.set_cons_zero, List.set_cons_succ])
          (refine wpAnyS_take0 19 ?_ rfl (by kernel_rfl) (by kernel_rfl) (by kernel_rfl) (by kernel_rfl) (fun _ _ _ h => h) (by rfl) ?_ (fun h => absurd h (by decide +kernel)) ?_; rotate_left; (· (intro w; go_simp; (try with_reducible rfl))); try simp only [Act.put, List.setIfInBounds_toArray, List.set_cons_zero, List.set_cons_succ])
          refine wpAnyS_one 20 rfl (by kernel_rfl) (by rfl) ?_
          intro K hK
          go_simp
          refine hK _ _ (fun h => absurd h (by decide +kernel)) ?_
          clear hK q7 f7
          refine wpAnyS_done (by kernel_rfl) ?_
          go_wp2_with fail
          go_ret
          exact ⟨⟨l, prs, sum, true⟩, .slice A1 p c1, .slice Av prs.length cv, by rw [HE.out]; rfl, (by rw [HE.out]; intro s2 h; injection h), KF.out, FF.out, Nw.refl _ _⟩
        · by_cases hsl : sum < least
          · have HE : Hid (psrch (gpL ds) 0 us prs sum ⟨left, best, least, solved⟩ = some ⟨l, prs, sum, true⟩) := Lib.hid (by rw [psrch, if_neg L0.out, leafP, if_pos (.inr hsl)]; simp only [HL.out]; rfl)
            subst hso
            have dsl : decide (sum < least) = true := decide_eq_true hsl
            go_upto_region 8 with fail
            (refine wp_region_bel W.heap.size W (Below.refl _ _) (by kernel_rfl) (by kernel_rfl) ?_; (repeat (go_big_quiet_step ((first | fail)))); refine wpQuiet_nil ?_; rintro w9 ⟨⟨_, hb9⟩, rfl⟩)
            have K9 := Lib.hid (K2.out.keep hb9)
            have F9 := Lib.hid (F2.out.more (Frm.of_below hb9 g _ _))
            clear hc C0 K2 F2 hb9
            go_upto_region 9 with fail
            refine wp_region_S (S18 g 2 3 4 (.slice A1 p c1) (.int .i64 sum) (.int .i64 l)) 14 (by kernel_rfl) ?_
            have bd : Below w9.heap.size w9 w9.drew := below_drew (Below.refl _ _)
            have K10 := Lib.hid (K9.out.keep bd)
            have F10 := Lib.hid (F9.out.more (Frm.of_below bd g _ _))
            clear bd K9 F9
            generalize w9.drew = wd at K10 F10 ⊢
            have HS : S18 g 2 3 4 (.slice A1 p c1) (.int .i64 sum) (.int .i64 l) wd := ⟨K10.out.k.cell 2, K10.out.k.cell 3, K10.out.k.cell 4⟩
            (refine wpAnyS_take0 0 ?_ rfl (by kernel_rfl) (by kernel_rfl) (by kernel_rfl) (by kernel_rfl) (fun _ _ _ h => h) (by rfl) ?_ (fun _ => HS) ?_; rotate_left; (· (intro w; go_simp; (try with_reducible rfl))); try simp only [Act.put, List.setIfInBounds_toArray, List.set_cons_zero, List.set_cons_succ])
            (refine wpAnyS_take0 1 ?_ rfl (by kernel_rfl) (by kernel_rfl) (by kernel_rfl) (by kernel_rfl) (fun _ _ _ h => h) (by rfl) ?_ (fun _ => HS) ?_; rotate_left; (· (intro w; go_simp; (try with_reducible rfl))); try simp only [Act.put, List.setIfInBounds_toArray, List.set_cons_zero, List.set_cons_succ])
            (refine wpAnyS_take0 2 ?_ rfl (by kernel_rfl) (by kernel_rfl) (by kernel_rfl) (by kernel_rfl) (fun _ _ _ h => h) (by rfl) ?_ (fun _ => HS) ?_; rotate_left; (· (intro w; go_simp; (try with_reducible rfl))); try simp only [Act.put, List.setIfInBounds_toArray, List.set_cons_zero, List.set_cons_succ])
            (refine wpAnyS_take0 3 ?_ rfl (by kernel_rfl) (by kernel_rfl) (by kernel_rfl) (by kernel_rfl) (fun _ _ _ h => h) (by rfl) ?_ (fun _ => HS) ?_; rotate_left; (· (intro w; go_simp; (try with_reducible rfl))); try simp only [Act.put, List.setIfInBounds_toArray, List.set_cons_zero, List.set_cons_succ])
            (refine wpAnyS_take0 4 ?_ rfl (by kernel_rfl) (by kernel_rfl) (by kernel_rfl) (by kernel_rfl) (fun _ _ _ h => h) (by rfl) ?_ (fun _ => HS) ?_; rotate_left; (· (intro w; go_simp; (try with_reducible rfl))); try simp only [Act.put, List.setIfInBounds_toArray, List.set_cons_zero, List.set_cons_succ])
            (refine wpAnyS_take0 5 ?_ rfl (by kernel_rfl) (by kernel_rfl) (by kernel_rfl) (by kernel_rfl) (fun _ _ _ h => h) (by rfl) ?_ (fun _ => HS) ?_; rotate_left; (· (intro w; go_simp; (try with_reducible rfl))); try simp only [Act.put, List.setIfInBounds_toArray, List.set_cons_zero, List.set_cons_succ])
            (refine wpAnyS_take 6 ?_ rfl (by kernel_rfl) (by kernel_rfl) (by kernel_rfl) (by kernel_rfl) (by kernel_rfl) (by kernel_rfl) (fun _ _ _ h => h) (by rfl) ?_ HS ?_; rotate_left; (· (intro w hSw; obtain ⟨s1, s2, s3⟩ := hSw; go_simp; (try with_reducible rfl))); try simp only [Act.put, List.setIfInBounds_toArray, List.set_cons_zero, List.set_cons_succ])
            (refine wpAnyS_take0 8 ?_ rfl (by kernel_rfl) (by kernel_rfl) (by kernel_rfl) (by kernel_rfl) (fun _ _ _ h => h) (by rfl) ?_ (fun _ => HS) ?_; rotate_left; (· (intro w; go_simp; (try with_reducible rfl))); try simp only [Act.put, List.setIfInBounds_toArray, List.set_cons_zero, List.set_cons_succ])
            (refine wpAnyS_take0 9 ?_ rfl (by kernel_rfl) (by kernel_rfl) (by kernel_rfl) (by kernel_rfl) (fun _ _ _ h => h) (by rfl) ?_ (fun _ => HS) ?_; rotate_left; (· (intro w; go_simp; (try with_reducible rfl))); try simp only [Act.put, List.setIfInBounds_toArray, List.set_cons_zero, List.set_cons_succ])
            (refine wpAnyS_take0 10 ?_ rfl (by kernel_rfl) (by kernel_rfl) (by kernel_rfl) (by kernel_rfl) (fun _ _ _ h => h) (by rfl) ?_ (fun _ => HS) ?_; rotate_left; (· (intro w; go_simp; (try with_reducible rfl))); try simp only [Act.put, List.setIfInBounds_toArray, List.set_cons_zero, List.set_cons_succ])
            (refine wpAnyS_take 11 ?_ rfl (by kernel_rfl) (by kernel_rfl) (by kernel_rfl) (by kernel_rfl) (by kernel_rfl) (by kernel_rfl) (fun _ _ _ h => h) (by rfl) ?_ HS ?_; rotate_left; (· (intro w hSw; obtain ⟨s1, s2, s3⟩ := hSw; go_simp; (try with_reducible rfl))); try simp only [Act.put, List.setIfInBounds_toArray, List.set_cons_zero, List.set_cons_succ])
            refine wpAnyS_one 7 rfl (by kernel_rfl) (by rfl) ?_
            intro K hK
            go_simp
            have CC := cloneP_any L p c1 A1 prs wd (by rw [HP.out]; have h := K10.out.o1; rw [HP.out] at h; exact h) (by omega)
            refine CC.mono ?_
            rintro r we ⟨v, rfl, ov, hbe⟩
            obtain ⟨Av, cv, rfl⟩ := own_valP ov
            have K11 := Lib.hid (K10.out.keep hbe)
            have F11 := Lib.hid (F10.out.more (Frm.of_below hbe g _ _))
            have OV := Lib.hid ov
            have LV := Lib.hid (show ∀ k, Value.ownBlock (.slice A1 p c1) = some k → Value.ownBlock (.slice Av prs.length cv) ≠ some k from fun k hk e => by
              have a := (K10.out.o1.lt k hk).2
              have b := (ov.lt k e).1
              omega)
            have LW : Hid (L ≤ wd.heap.size) := Lib.hid (Nat.le_trans LL.out F10.out.size)
            clear CC ov hbe HS K10 F10
            have HS : S18 g 2 3 4 (.slice A1 p c1) (.int .i64 sum) (.int .i64 l) we := ⟨K11.out.k.cell 2, K11.out.k.cell 3, K11.out.k.cell 4⟩
            try simp only [Act.put, List.setIfInBounds_toArray, List.set_cons_zero, List.set_cons_succ]
            refine hK _ _ (fun _ => HS) ?_
            clear hK
            (refine wpAnyS_take0 12 ?_ rfl (by kernel_rfl) (by kernel_rfl) (by kernel_rfl) (by kernel_rfl) (fun _ _ _ h => h) (by rfl) ?_ (fun _ => HS) ?_; rotate_left; (· (intro w; go_simp; (try with_reducible rfl))); try simp only [Act.put, List.setIfInBounds_toArray, List.set_cons_zero, List.set_cons_succ])
            (refine wpAnyS_take0 13 ?_ rfl (by kernel_rfl) (by kernel_rfl) (by kernel_rfl) (by kernel_rfl) (fun _ _ _ h => h) (by rfl) ?_ (fun _ => HS) ?_; rotate_left; (· (intro w; go_simp; (try with_reducible rfl))); try simp only [Act.put, List.setIfInBounds_toArray, List.set_cons_zero, List.set_cons_succ])
            have KF := Lib.hid (K11.out.found OV.out LW.out LV.out)
            have FF := Lib.hid (((F11.out.more (Frm.setg we g 5 (.slice Av prs.length cv) _ _)).more (Frm.setg _ g 6 (.int .i64 sum) _ _)).more (Frm.setg _ g 7 (.bool true) _ _))
            have q5 := K11.out.k.cell 5
            have f5 := K11.out.k.frozen 5
            have q6 := (K11.out.k.set_ 5 (.slice Av prs.length cv)).cell 6
            have f6 := (K11.out.k.set_ 5 (.slice Av prs.length cv)).frozen 6
            have q7 := ((K11.out.k.set_ 5 (.slice Av prs.length cv)).set_ 6 (.int .i64 sum)).cell 7
            have f7 := ((K11.out.k.set_ 5 (.slice Av prs.length cv)).set_ 6 (.int .i64 sum)).frozen 7
            simp at q5 q6 q7
            clear K11 F11 OV LV LW HS
            refine wpAnyS_one 14 rfl (by kernel_rfl) (by rfl) ?_
            intro K hK
            go_simp
            refine hK _ _ (fun h => absurd h (by decide +kernel)) ?_
            clear hK q5 f5
            (refine wpAnyS_take0 15 ?_ rfl (by kernel_rfl) (by kernel_rfl) (by kernel_rfl) (by kernel_rfl) (fun _ _ _ h => h) (by rfl) ?_ (fun h => absurd h (by decide +kernel)) ?_; rotate_left; (· (intro w; go_simp; (try with_reducible rfl))); try simp only [Act.put, List.setIfInBounds_toArray, List.set_cons_zero, List.set_cons_succ])
            (refine wpAnyS_take0 16 ?_ rfl (by kernel_rfl) (by kernel_rfl) (by kernel_rfl) (by kernel_rfl) (fun _ _ _ h => h) (by rfl) ?_ (fun h => absurd h (by decide +kernel)) ?_; rotate_left; (· (intro w; go_simp; (try with_reducible rfl))); try simp only [Act.put, List.setIfInBounds_toArray, List.set_cons_zero, List.set_cons_succ])
            refine wpAnyS_one 17 rfl (by kernel_rfl) (by rfl) ?_
            intro K hK
            go_simp
            refine hK _ _ (fun h => absurd h (by decide +kernel)) ?_
            clear hK q6 f6
            (refine wpAnyS_take0 18 ?_ rfl (by kernel_rfl) (by kernel_rfl) (by kernel_rfl) (by kernel_rfl) (fun _ _ _ h => h) (by rfl) ?_ (fun h => absurd h (by decide +kernel)) ?_; rotate_left; (· (intro w; go_simp; (try with_reducible rfl))); try simp only [Act.put, List.setIfInBounds_toArray, List.set_cons_zero, List.set_cons_succ])
            (refine wpAnyS_take0 19 ?_ rfl (by kernel_rfl) (by kernel_rfl) (by kernel_rfl) (by kernel_rfl) (fun _ _ _ h => h) (by rfl) ?_ (fun h => absurd h (by decide +kernel)) ?_; rotate_left; (· (intro w; go_simp; (try with_reducible rfl))); try simp only [Act.put, List.setIfInBounds_toArray, List.set_cons_zero, List.set_cons_succ])
            refine wpAnyS_one 20 rfl (by kernel_rfl) (by rfl) ?_
            intro K hK
            go_simp
            refine hK _ _ (fun h => absurd h (by decide +kernel)) ?_
            clear hK q7 f7
            refine wpAnyS_done (by kernel_rfl) ?_
            go_wp2_with fail
            go_ret
            exact ⟨⟨l, prs, sum, true⟩, .slice A1 p c1, .slice Av prs.length cv, by rw [HE.out]; rfl, (by rw [HE.out]; intro s2 h; injection h), KF.out, FF.out, Nw.refl _ _⟩
          · have HE : Hid (psrch (gpL ds) 0 us prs sum ⟨left, best, least, solved⟩ = some ⟨l, best, least, solved⟩) := Lib.hid (by rw [psrch, if_neg L0.out, leafP, if_neg (by rw [hso]; simp; omega)]; simp only [HL.out]; rfl)
            subst hso
            have dsl : decide (sum < least) = false := decide_eq_false hsl
            go_upto_region 8 with fail
            (refine wp_region_bel W.heap.size W (Below.refl _ _) (by kernel_rfl) (by kernel_rfl) ?_; (repeat (go_big_quiet_step ((first | fail)))); refine wpQuiet_nil ?_; rintro w9 ⟨⟨_, hb9⟩, rfl⟩)
            have K9 := Lib.hid (K2.out.keep hb9)
            have F9 := Lib.hid (F2.out.more (Frm.of_below hb9 g _ _))
            clear hc C0 K2 F2 hb9
            go_wp2_with fail
            go_ret
            exact ⟨⟨l, best, least, true⟩, .slice A1 p c1, v3, by rw [HE.out]; rfl, (by rw [HE.out]; intro s2 h; injection h), K9.out, F9.out, Nw.refl _ _⟩
end
end Go.Proofs.Ytoodlpgamlelaaa
