/- Pairs of planks: the program's search, one pair at a time. -/
import Derived.Test.YtoodlpgamlelaaaPairM
set_option linter.unusedVariables false
set_option linter.unusedSimpArgs false
namespace Go.Proofs.Ytoodlpgamlelaaa
open Go.RowKit

theorem frst_lt {us : List Bool} (h : 0 < unus us) : frst us < us.length := by
  rcases Nat.lt_or_ge (frst us) us.length with a | a
  · exact a
  · exfalso
    have e : frst us = us.length := Nat.le_antisymm (frst_le us) a
    have : unus us = 0 := by
      unfold unus
      refine List.countP_eq_zero.2 fun b hb => ?_
      obtain ⟨j, hj, rfl⟩ := List.mem_iff_getElem.1 hb
      have := frst_true (us := us) (k := j) (by omega)
      rw [List.getElem?_eq_getElem hj] at this
      injection this with this
      rw [this]; simp
    omega
section
variable (ds : List PlankD) (g gu L B : Nat) (LA : Option Addr) (n lc uc : Nat)
set_option maxRecDepth 100000 in
set_option maxHeartbeats 8000000 in
theorem psearch_s (n16 : n ≤ 16) (hds : ds.length = n) (hpl : ∀ x ∈ ds, plankR x) (d : Nat)
    (IH : ∀ (w : World) (us : List Bool) (prs : List (Nat × Nat)) (sum : Int) (st : PSt) (v1 v3 : Value), PairH ds g gu L B LA n lc uc d w us prs sum st v1 v3 →
      Calls Try.prog 21 #[.pointer (some ⟨g, 0, none⟩)] w (PairE g gu L LA n lc uc w us prs sum v1 (psrch (gpL ds) d us prs sum st)))
    (w : World) (us : List Bool) (prs : List (Nat × Nat)) (sum : Int) (st : PSt) (v1 v3 : Value) (h : PairH ds g gu L B LA n lc uc (d + 1) w us prs sum st v1 v3) :
    Calls Try.prog 21 #[.pointer (some ⟨g, 0, none⟩)] w (PairE g gu L LA n lc uc w us prs sum v1 (psrch (gpL ds) (d + 1) us prs sum st)) := by
  obtain ⟨left, best, least, solved⟩ := st
  have K := h.at_
  have UN := Lib.hid h.un
  have UL := Lib.hid h.ul
  have lf : left ≤ 2000000000 := h.lf
  have pd := h.pd
  have sb : 0 ≤ sum ∧ sum ≤ 1400000000000 := by have := h.s0; have := h.s1; omega
  have SS := Lib.hid h.s1
  have RD := Lib.hid h.rd
  have BG := Lib.hid h.bg
  have BU := Lib.hid h.bu
  have BL := Lib.hid h.bL
  have LW := Lib.hid h.lw
  have HDS := Lib.hid hds
  have IH := Lib.hid IH
  have PL := Lib.hid hpl
  clear h hds hpl
  have FL := frst_lt (us := us) (by rw [UN.out]; omega)
  obtain ⟨i, hi⟩ : ∃ i, i = frst us := ⟨_, rfl⟩
  have IU : Hid (us[i]? = some false) := Lib.hid (by rw [hi]; exact frst_is FL)
  have IT : Hid (∀ j, j < i → us[j]? = some true) := Lib.hid (fun j hj => frst_true (by omega))
  have HI := Lib.hid hi
  have hin : i < n := by rw [hi, ← UL.out]; exact FL
  clear FL hi
  obtain ⟨A1, c1, rfl⟩ := own_valP K.o1
  obtain ⟨p, hp⟩ : ∃ p, p = prs.length := ⟨_, rfl⟩
  have HP := Lib.hid hp
  have p7 : p + d ≤ 7 := by rw [hp]; omega
  by_cases l0 : left = 0
  · subst l0
    have HE : Hid (psrch (gpL ds) (d + 1) us prs sum ⟨0, best, least, solved⟩ = none) := Lib.hid (by rw [psrch]; rfl)
    have hc := K.k.cell
    have KK := Lib.hid K
    clear K hp
    go_enter Try.func21, Try.ntmps21
    go_wp2
    go_ret
    exact ⟨_, _, v3, by rw [HE.out]; rfl, (by rw [HE.out]; intro s2 h; cases h), KK.out, Frm.refl _ _ _ _, Nw.refl _ _⟩
  · obtain ⟨l, hl⟩ : ∃ l, left = l + 1 := ⟨left - 1, by omega⟩
    have e1 : (left : Int) - 1 = l := by omega
    obtain ⟨R, hR⟩ : ∃ R, R = lpP (fun k => !us.getD k false) (fun k st => psrch (gpL ds) d ((us.set i true).set k true) (prs ++ [(i, k)]) (sum + gpL ds i k) st) n (n - (i + 1)) ⟨l, best, least, solved⟩ := ⟨_, rfl⟩
    have HE : Hid (psrch (gpL ds) (d + 1) us prs sum ⟨left, best, least, solved⟩ = R) := Lib.hid (by
      rw [psrch, if_neg l0, if_neg (by rw [← HI.out, UL.out]; omega), ← HI.out, UL.out, hR, hl]; rfl)
    have HR0 := Lib.hid hR.symm
    have LL : Hid (l ≤ 2000000000) := Lib.hid (by omega)
    clear hl hR
    have l1 : 1 ≤ (left : Int) := by omega
    have hc := K.k.cell
    have hf := K.k.frozen
    have P0 := PM.store (PM.of (V1 := .slice A1 prs.length c1) K (Frm.refl w g _ _) (Nw.refl _ _)) 4 (.int .i64 l)
    simp at P0
    have P0 := Lib.hid P0
    have SZ := Lib.hid K.k.lt
    have OB := Lib.hid (K.o1.lt)
    have UG := Lib.hid K.u.lt
    clear K
    rw [← hp] at hc P0 OB ⊢
    clear hp
    go_enter Try.func21, Try.ntmps21
    go_upto_region 4 with fail
    generalize w.setCell ⟨g, 4, none⟩ (.int .i64 l) = W at P0 ⊢
    clear hc hf
    have hc := P0.out.k.cell
    have ne1 : ((i : Int) == n) = false := by simp; omega
    have ne2 : (i == n) = false := by simp; omega
    go_wp2_with fail
    go_loop [3] (fun kv => ∃ k : Nat, k ≤ i ∧ kv = .int .i64 k) (fun kv => i - (intOf kv).toNat)
    case atStart => exact ⟨0, Nat.zero_le _, rfl⟩
    case round =>
      obtain ⟨k, hk, rfl⟩ := hrel
      by_cases hlt : k < i
      · have hu : W.cell? ⟨gu, k, none⟩ = some (.bool true) := by
          rw [P0.out.u.cell k]
          exact bvs_get (IT.out k hlt)
        have hkn : k < n := by omega
        go_wp2_with fail
        go_round
        case rel => exact ⟨k + 1, by omega, by go_num⟩
        case measure => simp [intOf]; omega
      · obtain rfl : i = k := by omega
        have hu : W.cell? ⟨gu, i, none⟩ = some (.bool false) := by
          rw [P0.out.u.cell i]
          exact bvs_get IU.out
        go_wp2_with fail
        clear hc hu
        go_loopw [4] (fun kv wr => ∃ (k : Nat) (stk : PSt) (u1 u3 : Value), i < k ∧ k ≤ n ∧ kv = .int .i64 k ∧ Hid (lpP (fun k => !us.getD k false) (fun k st => psrch (gpL ds) d ((us.set i true).set k true) (prs ++ [(i, k)]) (sum + gpL ds i k) st) n (n - k) stk = R) ∧ Hid (PM g gu L n uc (.slice A1 p c1) w wr #[.slice LA n lc, .slice (some ⟨gu, 0, none⟩) n uc, u1, .int .i64 sum, .int .i64 (stk.left : Int), u3, .int .i64 stk.least, .bool stk.solved] us u1 prs u3 stk.best) ∧ Hid (stk.left ≤ 2000000000)) (fun kv _ => n - (intOf kv).toNat)
        case atStart => exact ⟨i + 1, ⟨l, best, least, solved⟩, .slice A1 p c1, v3, by omega, by omega, by go_num, HR0, P0, LL⟩
        case round =>
          obtain ⟨k, stk, u1, u3, hik, hkn, rfl, HRk, PK, LK⟩ := hrel
          obtain ⟨a1, b1, rfl⟩ := own_valP PK.out.o1
          rw [← HP.out] at PK
          by_cases hlt2 : k < n
          · obtain ⟨b, hb⟩ : ∃ b, us[k]? = some b := ⟨us[k]'(by rw [UL.out]; exact hlt2), List.getElem?_eq_getElem (by rw [UL.out]; exact hlt2)⟩
            have hu : wr.cell? ⟨gu, k, none⟩ = some (.bool b) := by
              rw [PK.out.u.cell k]
              exact bvs_get hb
            have hc := PK.out.k.cell
            cases b
            · have IK : Hid (us[k]? = some false) := Lib.hid hb
              obtain ⟨sl, sbs, sle, sso⟩ := stk
              have SL : sl ≤ 2000000000 := LK.out
              obtain ⟨x, hx, hxm⟩ := getD_of (l := ds) (i := i) (by rw [HDS.out]; exact hin)
              obtain ⟨y, hy, hym⟩ := getD_of (l := ds) (i := k) (by rw [HDS.out]; exact hlt2)
              have rx := PL.out x hxm
              have ry := PL.out y hym
              obtain ⟨gv, hgv⟩ : ∃ v, v = gpL ds i k := ⟨_, rfl⟩
              have GX : gapL x y = gv := by rw [hgv, gpL, getD_ok hx, getD_ok hy]
              have gb : 0 ≤ gv ∧ gv ≤ 200000000000 := by rw [← GX]; exact gap_bd rx ry
              have CG := Lib.hid (fun w => gap_i x y w rx ry)
              rw [GX] at CG
              have GV := Lib.hid hgv
              have BW : Below B w wr := PK.out.f.belowB BG.out (by have := LW.out; have := BL.out; omega) (fun q hq => by have := (OB.out q hq).1; have := BL.out; omega) (fun q hq => by simp [Value.ownBlock] at hq; subst hq; exact BU.out)
              obtain ⟨bl, ol, rfl, hbl, hcl⟩ := RD.out.at_ plankF_len (by omega)
              have hbr : bl < wr.heap.size := by have := BW.size; have := LW.out; have := BL.out; omega
              obtain ⟨x0, x1, x2, x3, x4, x5⟩ := x
              obtain ⟨y0, y1, y2, y3, y4, y5⟩ := y
              have cx0 := bel_at (B := wr.heap.size) (W0 := wr) ((BW.cell (p := ⟨bl, ol + i * 6, none⟩) hbl).trans (hcl i ⟨x0, x1, x2, x3, x4, x5⟩ 0 (.string x0) hx rfl)) hbr
              have cx1 := bel_at (B := wr.heap.size) (W0 := wr) ((BW.cell (p := ⟨bl, ol + i * 6 + 1, none⟩) hbl).trans (hcl i ⟨x0, x1, x2, x3, x4, x5⟩ 1 (.int .i64 x1) hx rfl)) hbr
              have cx2 := bel_at (B := wr.heap.size) (W0 := wr) ((BW.cell (p := ⟨bl, ol + i * 6 + 2, none⟩) hbl).trans (hcl i ⟨x0, x1, x2, x3, x4, x5⟩ 2 (.int .i64 x2) hx rfl)) hbr
              have cx3 := bel_at (B := wr.heap.size) (W0 := wr) ((BW.cell (p := ⟨bl, ol + i * 6 + 3, none⟩) hbl).trans (hcl i ⟨x0, x1, x2, x3, x4, x5⟩ 3 (.int .i64 x3) hx rfl)) hbr
              have cx4 := bel_at (B := wr.heap.size) (W0 := wr) ((BW.cell (p := ⟨bl, ol + i * 6 + 4, none⟩) hbl).trans (hcl i ⟨x0, x1, x2, x3, x4, x5⟩ 4 (.int .i64 x4) hx rfl)) hbr
              have cx5 := bel_at (B := wr.heap.size) (W0 := wr) ((BW.cell (p := ⟨bl, ol + i * 6 + 5, none⟩) hbl).trans (hcl i ⟨x0, x1, x2, x3, x4, x5⟩ 5 (.int .i64 x5) hx rfl)) hbr
              have cy0 := bel_at (B := wr.heap.size) (W0 := wr) ((BW.cell (p := ⟨bl, ol + k * 6, none⟩) hbl).trans (hcl k ⟨y0, y1, y2, y3, y4, y5⟩ 0 (.string y0) hy rfl)) hbr
              have cy1 := bel_at (B := wr.heap.size) (W0 := wr) ((BW.cell (p := ⟨bl, ol + k * 6 + 1, none⟩) hbl).trans (hcl k ⟨y0, y1, y2, y3, y4, y5⟩ 1 (.int .i64 y1) hy rfl)) hbr
              have cy2 := bel_at (B := wr.heap.size) (W0 := wr) ((BW.cell (p := ⟨bl, ol + k * 6 + 2, none⟩) hbl).trans (hcl k ⟨y0, y1, y2, y3, y4, y5⟩ 2 (.int .i64 y2) hy rfl)) hbr
              have cy3 := bel_at (B := wr.heap.size) (W0 := wr) ((BW.cell (p := ⟨bl, ol + k * 6 + 3, none⟩) hbl).trans (hcl k ⟨y0, y1, y2, y3, y4, y5⟩ 3 (.int .i64 y3) hy rfl)) hbr
              have cy4 := bel_at (B := wr.heap.size) (W0 := wr) ((BW.cell (p := ⟨bl, ol + k * 6 + 4, none⟩) hbl).trans (hcl k ⟨y0, y1, y2, y3, y4, y5⟩ 4 (.int .i64 y4) hy rfl)) hbr
              have cy5 := bel_at (B := wr.heap.size) (W0 := wr) ((BW.cell (p := ⟨bl, ol + k * 6 + 5, none⟩) hbl).trans (hcl k ⟨y0, y1, y2, y3, y4, y5⟩ 5 (.int .i64 y5) hy rfl)) hbr
              have C0 := bel_cell PK.out.k PK.out.k.lt
              have ti0 : (0 : Int) ≤ i := by omega
              have ti1 : (i : Int) < n := by omega
              have ti2 : (i : Int).toNat = i := by simp
              have tk0 : (0 : Int) ≤ k := by omega
              have tk1 : (k : Int) < n := by omega
              have tk2 : (k : Int).toNat = k := by simp
              clear hcl hx hxm hy hym rx ry GX hgv hb
              go_upto_region 15 with fail
              (refine wp_region_bel wr.heap.size wr (Below.refl _ _) (by kernel_rfl) (by kernel_rfl) ?_; (repeat (go_big_quiet_step ((first | (go_at_call 40; exact bel_of (Nat.le_refl _) (CG.out _)))))); refine wpQuiet_nil ?_; rintro wx ⟨⟨_, hbx⟩, rfl⟩)
              have P1 := Lib.hid (PK.out.keep hbx)
              clear cx0 cx1 cx2 cx3 cx4 cx5 cy0 cy1 cy2 cy3 cy4 cy5 C0 hbx PK CG hc hu BW hbr
              go_upto_region 16 with fail
              refine wp_region_S (S18 g 1 1 1 (.slice (some ⟨gu, 0, none⟩) n uc) (.slice (some ⟨gu, 0, none⟩) n uc) (.slice (some ⟨gu, 0, none⟩) n uc)) 10 (by kernel_rfl) ?_
              have bd : Below wx.heap.size wx wx.drew := below_drew (Below.refl _ _)
              have P2 := Lib.hid (P1.out.keep bd)
              clear bd P1
              generalize wx.drew = wd at P2 ⊢
              have HS : S18 g 1 1 1 (.slice (some ⟨gu, 0, none⟩) n uc) (.slice (some ⟨gu, 0, none⟩) n uc) (.slice (some ⟨gu, 0, none⟩) n uc) wd := ⟨P2.out.k.cell 1, P2.out.k.cell 1, P2.out.k.cell 1⟩
              (refine wpAnyS_take0 0 ?_ rfl (by kernel_rfl) (by kernel_rfl) (by kernel_rfl) (by kernel_rfl) (fun _ _ _ h => h) (by rfl) ?_ (fun _ => HS) ?_; rotate_left; (· (intro w; go_simp; (try with_reducible rfl))); try simp only [Act.put, List.setIfInBounds_toArray, List.set_cons_zero, List.set_cons_succ])
              (refine wpAnyS_take0 1 ?_ rfl (by kernel_rfl) (by kernel_rfl) (by kernel_rfl) (by kernel_rfl) (fun _ _ _ h => h) (by rfl) ?_ (fun _ => HS) ?_; rotate_left; (· (intro w; go_simp; (try with_reducible rfl))); try simp only [Act.put, List.setIfInBounds_toArray, List.set_cons_zero, List.set_cons_succ])
              (refine wpAnyS_take0 2 ?_ rfl (by kernel_rfl) (by kernel_rfl) (by kernel_rfl) (by kernel_rfl) (fun _ _ _ h => h) (by rfl) ?_ (fun _ => HS) ?_; rotate_left; (· (intro w; go_simp; (try with_reducible rfl))); try simp only [Act.put, List.setIfInBounds_toArray, List.set_cons_zero, List.set_cons_succ])
              (refine wpAnyS_take 3 ?_ rfl (by kernel_rfl) (by kernel_rfl) (by kernel_rfl) (by kernel_rfl) (by kernel_rfl) (by kernel_rfl) (fun _ _ _ h => h) (by rfl) ?_ HS ?_; rotate_left; (· (intro w hSw; obtain ⟨s1, s2, s3⟩ := hSw; go_simp; (try with_reducible rfl))); try simp only [Act.put, List.setIfInBounds_toArray, List.set_cons_zero, List.set_cons_succ])
              (refine wpAnyS_take0 4 ?_ rfl (by kernel_rfl) (by kernel_rfl) (by kernel_rfl) (by kernel_rfl) (fun _ _ _ h => h) (by rfl) ?_ (fun _ => HS) ?_; rotate_left; (· (intro w; go_simp; (try with_reducible rfl))); try simp only [Act.put, List.setIfInBounds_toArray, List.set_cons_zero, List.set_cons_succ])
              (refine wpAnyS_take0 5 ?_ rfl (by kernel_rfl) (by kernel_rfl) (by kernel_rfl) (by kernel_rfl) (fun _ _ _ h => h) (by rfl) ?_ (fun _ => HS) ?_; rotate_left; (· (intro w; go_simp; (try with_reducible rfl))); try simp only [Act.put, List.setIfInBounds_toArray, List.set_cons_zero, List.set_cons_succ])
              (refine wpAnyS_take0 6 ?_ rfl (by kernel_rfl) (by kernel_rfl) (by kernel_rfl) (by kernel_rfl) (fun _ _ _ h => h) (by rfl) ?_ (fun _ => HS) ?_; rotate_left; (· (intro w; go_simp; (try with_reducible rfl))); try simp only [Act.put, List.setIfInBounds_toArray, List.set_cons_zero, List.set_cons_succ])
              (refine wpAnyS_take0 7 ?_ rfl (by kernel_rfl) (by kernel_rfl) (by kernel_rfl) (by kernel_rfl) (fun _ _ _ h => h) (by rfl) ?_ (fun _ => HS) ?_; rotate_left; (· (intro w; go_simp; (try with_reducible rfl))); try simp only [Act.put, List.setIfInBounds_toArray, List.set_cons_zero, List.set_cons_succ])
              (refine wpAnyS_take 8 ?_ rfl (by kernel_rfl) (by kernel_rfl) (by kernel_rfl) (by kernel_rfl) (by kernel_rfl) (by kernel_rfl) (fun _ _ _ h => h) (by rfl) ?_ HS ?_; rotate_left; (· (intro w hSw; obtain ⟨s1, s2, s3⟩ := hSw; go_simp; (try with_reducible rfl))); try simp only [Act.put, List.setIfInBounds_toArray, List.set_cons_zero, List.set_cons_succ])
              (refine wpAnyS_take0 9 ?_ rfl (by kernel_rfl) (by kernel_rfl) (by kernel_rfl) (by kernel_rfl) (fun _ _ _ h => h) (by rfl) ?_ (fun _ => HS) ?_; rotate_left; (· (intro w; go_simp; (try with_reducible rfl))); try simp only [Act.put, List.setIfInBounds_toArray, List.set_cons_zero, List.set_cons_succ])
              refine wpAnyS_one 10 rfl (by kernel_rfl) (by rfl) ?_
              intro K hK
              go_simp
              refine hK _ _ (fun h => absurd h (by decide +kernel)) ?_
              clear hK HS
              have q1 : wd.cell? ⟨gu, i, none⟩ = some (.bool false) := by rw [P2.out.u.cell i]; exact bvs_get IU.out
              have f1 := P2.out.u.frozen i
              have P3 := Lib.hid (P2.out.mark i true)
              refine wpAnyS_one 11 rfl (by kernel_rfl) (by rfl) ?_
              intro K hK
              go_simp
              refine hK _ _ (fun h => absurd h (by decide +kernel)) ?_
              clear hK q1 f1 P2
              generalize wd.setCell ⟨gu, i, none⟩ (.bool true) = w3 at P3 ⊢
              refine wpAnyS_one 12 rfl (by kernel_rfl) (by rfl) ?_
              intro K hK
              go_simp
              refine hK _ _ (fun h => absurd h (by decide +kernel)) ?_
              clear hK
              have hne : i ≠ k := by omega
              have IK2 : Hid ((us.set i true)[k]? = some false) := Lib.hid (by rw [List.getElem?_set_ne hne]; exact IK.out)
              have q1 : w3.cell? ⟨gu, k, none⟩ = some (.bool false) := by rw [P3.out.u.cell k]; exact bvs_get IK2.out
              have f1 := P3.out.u.frozen k
              have P4 := Lib.hid (P3.out.mark k true)
              refine wpAnyS_one 13 rfl (by kernel_rfl) (by rfl) ?_
              intro K hK
              go_simp
              refine hK _ _ (fun h => absurd h (by decide +kernel)) ?_
              clear hK q1 f1 P3
              generalize w3.setCell ⟨gu, k, none⟩ (.bool true) = w4 at P4 ⊢
              refine wpAnyS_done (by kernel_rfl) ?_
              obtain ⟨us2, hus2⟩ : ∃ u, u = (us.set i true).set k true := ⟨_, rfl⟩
              rw [← hus2] at P4
              have HU2 := Lib.hid hus2
              clear hus2
              have ws : IntKind.i64.wrap (sum + gv) = sum + gv := IntWalk.i64_in _ (by omega)
              go_upto_region 17 with fail
              refine wp_region_S (S18 g 2 3 3 (.slice a1 p b1) (.int .i64 sum) (.int .i64 sum)) 19 (by kernel_rfl) ?_
              have bd : Below w4.heap.size w4 w4.drew := below_drew (Below.refl _ _)
              have P5 := Lib.hid (P4.out.keep bd)
              clear bd P4
              generalize w4.drew = w5 at P5 ⊢
              have HS : S18 g 2 3 3 (.slice a1 p b1) (.int .i64 sum) (.int .i64 sum) w5 := ⟨P5.out.k.cell 2, P5.out.k.cell 3, P5.out.k.cell 3⟩
              (refine wpAnyS_take0 0 ?_ rfl (by kernel_rfl) (by kernel_rfl) (by kernel_rfl) (by kernel_rfl) (fun _ _ _ h => h) (by rfl) ?_ (fun _ => HS) ?_; rotate_left; (· (intro w; go_simp; (try with_reducible rfl))); try simp only [Act.put, List.setIfInBounds_toArray, List.set_cons_zero, List.set_cons_succ])
              (refine wpAnyS_take0 1 ?_ rfl (by kernel_rfl) (by kernel_rfl) (by kernel_rfl) (by kernel_rfl) (fun _ _ _ h => h) (by rfl) ?_ (fun _ => HS) ?_; rotate_left; (· (intro w; go_simp; (try with_reducible rfl))); try simp only [Act.put, List.setIfInBounds_toArray, List.set_cons_zero, List.set_cons_succ])
              (refine wpAnyS_take0 2 ?_ rfl (by kernel_rfl) (by kernel_rfl) (by kernel_rfl) (by kernel_rfl) (fun _ _ _ h => h) (by rfl) ?_ (fun _ => HS) ?_; rotate_left; (· (intro w; go_simp; (try with_reducible rfl))); try simp only [Act.put, List.setIfInBounds_toArray, List.set_cons_zero, List.set_cons_succ])
              (refine wpAnyS_take0 3 ?_ rfl (by kernel_rfl) (by kernel_rfl) (by kernel_rfl) (by kernel_rfl) (fun _ _ _ h => h) (by rfl) ?_ (fun _ => HS) ?_; rotate_left; (· (intro w; go_simp; (try with_reducible rfl))); try simp only [Act.put, List.setIfInBounds_toArray, List.set_cons_zero, List.set_cons_succ])
              (refine wpAnyS_take0 4 ?_ rfl (by kernel_rfl) (by kernel_rfl) (by kernel_rfl) (by kernel_rfl) (fun _ _ _ h => h) (by rfl) ?_ (fun _ => HS) ?_; rotate_left; (· (intro w; go_simp; (try with_reducible rfl))); try simp only [Act.put, List.setIfInBounds_toArray, List.set_cons_zero, List.set_cons_succ])
              (refine wpAnyS_take 5 ?_ rfl (by kernel_rfl) (by kernel_rfl) (by kernel_rfl) (by kernel_rfl) (by kernel_rfl) (by kernel_rfl) (fun _ _ _ h => h) (by rfl) ?_ HS ?_; rotate_left; (· (intro w hSw; obtain ⟨s1, s2, s3⟩ := hSw; go_simp; (try with_reducible rfl))); try simp only [Act.put, List.setIfInBounds_toArray, List.set_cons_zero, List.set_cons_succ])
              (refine wpAnyS_take0 6 ?_ rfl (by kernel_rfl) (by kernel_rfl) (by kernel_rfl) (by kernel_rfl) (fun _ _ _ h => h) (by rfl) ?_ (fun _ => HS) ?_; rotate_left; (· (intro w; go_simp; (try with_reducible rfl))); try simp only [Act.put, List.setIfInBounds_toArray, List.set_cons_zero, List.set_cons_succ])
              (refine wpAnyS_take0 7 ?_ rfl (by kernel_rfl) (by kernel_rfl) (by kernel_rfl) (by kernel_rfl) (fun _ _ _ h => h) (by rfl) ?_ (fun _ => HS) ?_; rotate_left; (· (intro w; go_simp; (try with_reducible rfl))); try simp only [Act.put, List.setIfInBounds_toArray, List.set_cons_zero, List.set_cons_succ])
              (refine wpAnyS_take0 8 ?_ rfl (by kernel_rfl) (by kernel_rfl) (by kernel_rfl) (by kernel_rfl) (fun _ _ _ h => h) (by rfl) ?_ (fun _ => HS) ?_; rotate_left; (· (intro w; go_simp; (try with_reducible rfl))); try simp only [Act.put, List.setIfInBounds_toArray, List.set_cons_zero, List.set_cons_succ])
              (refine wpAnyS_take0 11 ?_ rfl (by kernel_rfl) (by kernel_rfl) (by kernel_rfl) (by kernel_rfl) (fun _ _ _ h => h) (by rfl) ?_ (fun _ => HS) ?_; rotate_left; (· (intro w; go_simp; (try with_reducible rfl))); try simp only [Act.put, List.setIfInBounds_toArray, List.set_cons_zero, List.set_cons_succ])
              (refine wpAnyS_take0 12 ?_ rfl (by kernel_rfl) (by kernel_rfl) (by kernel_rfl) (by kernel_rfl) (fun _ _ _ h => h) (by rfl) ?_ (fun _ => HS) ?_; rotate_left; (· (intro w; go_simp; (try with_reducible rfl))); try simp only [Act.put, List.setIfInBounds_toArray, List.set_cons_zero, List.set_cons_succ])
              (refine wpAnyS_take0 13 ?_ rfl (by kernel_rfl) (by kernel_rfl) (by kernel_rfl) (by kernel_rfl) (fun _ _ _ h => h) (by rfl) ?_ (fun _ => HS) ?_; rotate_left; (· (intro w; go_simp; (try with_reducible rfl))); try simp only [Act.put, List.setIfInBounds_toArray, List.set_cons_zero, List.set_cons_succ])
              (refine wpAnyS_take 14 ?_ rfl (by kernel_rfl) (by kernel_rfl) (by kernel_rfl) (by kernel_rfl) (by kernel_rfl) (by kernel_rfl) (fun _ _ _ h => h) (by rfl) ?_ HS ?_; rotate_left; (· (intro w hSw; obtain ⟨s1, s2, s3⟩ := hSw; go_simp; (try with_reducible rfl))); try simp only [Act.put, List.setIfInBounds_toArray, List.set_cons_zero, List.set_cons_succ])
              (refine wpAnyS_take0 15 ?_ rfl (by kernel_rfl) (by kernel_rfl) (by kernel_rfl) (by kernel_rfl) (fun _ _ _ h => h) (by rfl) ?_ (fun _ => HS) ?_; rotate_left; (· (intro w; go_simp; (try with_reducible rfl))); try simp only [Act.put, List.setIfInBounds_toArray, List.set_cons_zero, List.set_cons_succ])
              (refine wpAnyS_take0 16 ?_ rfl (by kernel_rfl) (by kernel_rfl) (by kernel_rfl) (by kernel_rfl) (fun _ _ _ h => h) (by rfl) ?_ (fun _ => HS) ?_; rotate_left; (· (intro w; go_simp; (try with_reducible rfl))); try simp only [Act.put, List.setIfInBounds_toArray, List.set_cons_zero, List.set_cons_succ])
              refine wpAnyS_one 9 rfl (by kernel_rfl) (by rfl) ?_
              intro K hK
              go_simp
              have BA := (Below.refl w5.heap.size w5).alloc (Nat.le_refl _) (.cells #[.int .i64 (i : Int), .int .i64 (k : Int)] 53)
              have P6 := Lib.hid (P5.out.keep BA)
              have K6 := Lib.hid (Blk.new w5 53 #[.int .i64 (i : Int), .int .i64 (k : Int)])
              have L6 : Hid (L ≤ (w5.alloc (.cells #[.int .i64 (i : Int), .int .i64 (k : Int)] 53)).heap.size) := Lib.hid (by have := P5.out.f.size; have := BA.size; have := LW.out; omega)
              refine hK _ _ (fun _ => ⟨P6.out.k.cell 2, P6.out.k.cell 3, P6.out.k.cell 3⟩) ?_
              clear hK HS BA P5
              obtain ⟨B6, hB6⟩ : ∃ x, x = w5.heap.size := ⟨_, rfl⟩
              rw [← hB6] at K6 ⊢
              generalize w5.alloc (.cells #[.int .i64 (i : Int), .int .i64 (k : Int)] 53) = w6 at P6 K6 L6 ⊢
              clear hB6
              obtain ⟨m, hm⟩ : ∃ m, m = p + 1 := ⟨_, rfl⟩
              have HM := Lib.hid hm
              clear hm
              refine wpAnyS_one 10 rfl (by kernel_rfl) (by rfl) ?_
              intro K hK
              refine stepP (.tmp 128) (.tmp 132) rfl L (.slice a1 p b1) p m HM.out prs i k rfl (by have o := P6.out.o1; rw [← HP.out] at o; exact o) B6 rfl K6.out L6.out (by omega) ?_
              intro q cap w7 o7 g7 l7
              have P7 := Lib.hid (P6.out.app (qs := prs ++ [(i, k)]) (by rw [List.length_append, ← HP.out, HM.out]; rfl) o7 g7 l7)
              have L7 := Lib.hid (Nat.le_trans L6.out g7.size)
              clear o7 g7 l7 P6 K6 L6
              try simp only [Act.put, List.setIfInBounds_toArray, List.set_cons_zero, List.set_cons_succ]
              refine hK _ _ (fun _ => ⟨P7.out.k.cell 2, P7.out.k.cell 3, P7.out.k.cell 3⟩) ?_
              clear hK
              have HS : S18 g 2 3 3 (.slice a1 p b1) (.int .i64 sum) (.int .i64 sum) w7 := ⟨P7.out.k.cell 2, P7.out.k.cell 3, P7.out.k.cell 3⟩
              (refine wpAnyS_take0 17 ?_ rfl (by kernel_rfl) (by kernel_rfl) (by kernel_rfl) (by kernel_rfl) (fun _ _ _ h => h) (by rfl) ?_ (fun _ => HS) ?_; rotate_left; (· (intro w; go_simp; (try with_reducible rfl))); try simp only [Act.put, List.setIfInBounds_toArray, List.set_cons_zero, List.set_cons_succ])
              (refine wpAnyS_take0 18 ?_ rfl (by kernel_rfl) (by kernel_rfl) (by kernel_rfl) (by kernel_rfl) (fun _ _ _ h => h) (by rfl) ?_ (fun _ => HS) ?_; rotate_left; (· (intro w; go_simp; (try with_reducible rfl))); try simp only [Act.put, List.setIfInBounds_toArray, List.set_cons_zero, List.set_cons_succ])
              have q1 := P7.out.k.cell 2
              have f1 := P7.out.k.frozen 2
              have P8 := P7.out.store 2 (.slice (some ⟨q, 0, none⟩) m cap)
              simp at q1 P8
              have P8 := Lib.hid P8
              refine wpAnyS_one 19 rfl (by kernel_rfl) (by rfl) ?_
              intro K hK
              go_simp
              refine hK _ _ (fun h => absurd h (by decide +kernel)) ?_
              clear hK q1 f1 HS P7
              have L8 : Hid (L ≤ (w7.setCell ⟨g, 2, none⟩ (.slice (some ⟨q, 0, none⟩) m cap)).heap.size) := Lib.hid (by have := L7.out; simpa using this)
              generalize w7.setCell ⟨g, 2, none⟩ (.slice (some ⟨q, 0, none⟩) m cap) = w8 at P8 L8 ⊢
              (refine wpAnyS_take0 20 ?_ rfl (by kernel_rfl) (by kernel_rfl) (by kernel_rfl) (by kernel_rfl) (fun _ _ _ h => h) (by rfl) ?_ (fun h => absurd h (by decide +kernel)) ?_; rotate_left; (· (intro w; go_simp; (try with_reducible rfl))); try simp only [Act.put, List.setIfInBounds_toArray, List.set_cons_zero, List.set_cons_succ])
              (refine wpAnyS_take0 21 ?_ rfl (by kernel_rfl) (by kernel_rfl) (by kernel_rfl) (by kernel_rfl) (fun _ _ _ h => h) (by rfl) ?_ (fun h => absurd h (by decide +kernel)) ?_; rotate_left; (· (intro w; go_simp; (try with_reducible rfl))); try simp only [Act.put, List.setIfInBounds_toArray, List.set_cons_zero, List.set_cons_succ])
              have q1 := P8.out.k.cell 3
              have f1 := P8.out.k.frozen 3
              have P9 := P8.out.store 3 (.int .i64 (sum + gv))
              simp at q1 P9
              have P9 := Lib.hid P9
              refine wpAnyS_one 22 rfl (by kernel_rfl) (by rfl) ?_
              intro K hK
              go_simp
              refine hK _ _ (fun h => absurd h (by decide +kernel)) ?_
              clear hK q1 f1 P8
              have L9 : Hid (L ≤ (w8.setCell ⟨g, 3, none⟩ (.int .i64 (sum + gv))).heap.size) := Lib.hid (by have := L8.out; simpa using this)
              generalize w8.setCell ⟨g, 3, none⟩ (.int .i64 (sum + gv)) = w9 at P9 L9 ⊢
              refine wpAnyS_done (by kernel_rfl) ?_
              clear L7 L8
              obtain ⟨r, hr⟩ : ∃ r, r = psrch (gpL ds) d us2 (prs ++ [(i, k)]) (sum + gv) ⟨sl, sbs, sle, sso⟩ := ⟨_, rfl⟩
              have BW9 : Below B w w9 := P9.out.f.belowB BG.out (by have := LW.out; have := BL.out; omega) (fun q hq => by have := (OB.out q hq).1; have := BL.out; omega) (fun q hq => by simp [Value.ownBlock] at hq; subst hq; exact BU.out)
              have IHC := IH.out w9 us2 (prs ++ [(i, k)]) (sum + gv) ⟨sl, sbs, sle, sso⟩ (.slice (some ⟨q, 0, none⟩) m cap) u3 ⟨P9.out.at_ (st := ⟨sl, sbs, sle, sso⟩), by rw [HU2.out]; simp; exact UL.out, (by
                have h1 := unus_set IU.out
                have h2 := unus_set IK2.out
                have h3 := UN.out
                rw [HU2.out]; omega), by rw [List.length_append, ← HP.out]; simp; omega, by omega, by have := SS.out; rw [List.length_append]; simp; omega, SL, RD.out.below BW9, BG.out, BU.out, BL.out, L9.out⟩
              rw [← hr] at IHC
              have HRR := Lib.hid hr
              clear hr BW9
              go_wp2_with fail
              refine IHC.mono ?_
              rintro e9 wA ⟨st2, z1, z3, rfl, hs2, PA2, F2, N2⟩
              have P10 := P9.out.inner PA2 F2 N2
              have HS2 := Lib.hid hs2
              clear PA2 F2 N2 hs2 IHC P9 L9
              obtain ⟨ay, cy, rfl⟩ := own_valP P10.o1
              have ml : (prs ++ [(i, k)]).length = m := by rw [List.length_append, ← HP.out, HM.out]; rfl
              rw [ml] at P10
              have cpy : m ≤ cy := by have o := P10.o1; rw [ml] at o; exact own_capP o
              have em : (m : Int) - 1 = p := by have := HM.out; omega
              have im : p ≤ m := by have := HM.out; omega
              have cpp : p ≤ cy := by omega
              have wpp : IntKind.i64.wrap (p : Int) = p := IntWalk.i64_in _ (by omega)
              have cp0 : (0 : Int) ≤ p := by omega
              have cp1 : (p : Int) ≤ cy := by omega
              have cp2 : (p : Int).toNat = p := by simp
              have ws2 : IntKind.i64.wrap sum = sum := IntWalk.i64_in _ (by omega)
              have es2 : sum + gv - gv = sum := by omega
              have P11 := Lib.hid (P10.cut HM.out HP.out.symm)
              obtain ⟨tl, tb, tle, tso⟩ := st2
              simp only at P11
              clear P10 ml
              go_upto_region 19 with fail
              refine wp_region_S (S18 g 2 3 3 (.slice ay m cy) (.int .i64 (sum + gv)) (.int .i64 (sum + gv))) 21 (by kernel_rfl) ?_
              have bd : Below wA.heap.size wA wA.drew := below_drew (Below.refl _ _)
              have P12 := Lib.hid (P11.out.keep bd)
              clear bd P11
              generalize wA.drew = wB at P12 ⊢
              have HS : S18 g 2 3 3 (.slice ay m cy) (.int .i64 (sum + gv)) (.int .i64 (sum + gv)) wB := ⟨P12.out.k.cell 2, P12.out.k.cell 3, P12.out.k.cell 3⟩
              (refine wpAnyS_take0 0 ?_ rfl (by kernel_rfl) (by kernel_rfl) (by kernel_rfl) (by kernel_rfl) (fun _ _ _ h => h) (by rfl) ?_ (fun _ => HS) ?_; rotate_left; (· (intro w; go_simp; (try with_reducible rfl))); try simp only [Act.put, List.setIfInBounds_toArray, List.set_cons_zero, List.set_cons_succ])
              (refine wpAnyS_take0 1 ?_ rfl (by kernel_rfl) (by kernel_rfl) (by kernel_rfl) (by kernel_rfl) (fun _ _ _ h => h) (by rfl) ?_ (fun _ => HS) ?_; rotate_left; (· (intro w; go_simp; (try with_reducible rfl))); try simp only [Act.put, List.setIfInBounds_toArray, List.set_cons_zero, List.set_cons_succ])
              (refine wpAnyS_take0 2 ?_ rfl (by kernel_rfl) (by kernel_rfl) (by kernel_rfl) (by kernel_rfl) (fun _ _ _ h => h) (by rfl) ?_ (fun _ => HS) ?_; rotate_left; (· (intro w; go_simp; (try with_reducible rfl))); try simp only [Act.put, List.setIfInBounds_toArray, List.set_cons_zero, List.set_cons_succ])
              (refine wpAnyS_take0 3 ?_ rfl (by kernel_rfl) (by kernel_rfl) (by kernel_rfl) (by kernel_rfl) (fun _ _ _ h => h) (by rfl) ?_ (fun _ => HS) ?_; rotate_left; (· (intro w; go_simp; (try with_reducible rfl))); try simp only [Act.put, List.setIfInBounds_toArray, List.set_cons_zero, List.set_cons_succ])
              (refine wpAnyS_take0 4 ?_ rfl (by kernel_rfl) (by kernel_rfl) (by kernel_rfl) (by kernel_rfl) (fun _ _ _ h => h) (by rfl) ?_ (fun _ => HS) ?_; rotate_left; (· (intro w; go_simp; (try with_reducible rfl))); try simp only [Act.put, List.setIfInBounds_toArray, List.set_cons_zero, List.set_cons_succ])
              (refine wpAnyS_take 5 ?_ rfl (by kernel_rfl) (by kernel_rfl) (by kernel_rfl) (by kernel_rfl) (by kernel_rfl) (by kernel_rfl) (fun _ _ _ h => h) (by rfl) ?_ HS ?_; rotate_left; (· (intro w hSw; obtain ⟨s1, s2, s3⟩ := hSw; go_simp; (try with_reducible rfl))); try simp only [Act.put, List.setIfInBounds_toArray, List.set_cons_zero, List.set_cons_succ])
              (refine wpAnyS_take0 6 ?_ rfl (by kernel_rfl) (by kernel_rfl) (by kernel_rfl) (by kernel_rfl) (fun _ _ _ h => h) (by rfl) ?_ (fun _ => HS) ?_; rotate_left; (· (intro w; go_simp; (try with_reducible rfl))); try simp only [Act.put, List.setIfInBounds_toArray, List.set_cons_zero, List.set_cons_succ])
              (refine wpAnyS_take0 7 ?_ rfl (by kernel_rfl) (by kernel_rfl) (by kernel_rfl) (by kernel_rfl) (fun _ _ _ h => h) (by rfl) ?_ (fun _ => HS) ?_; rotate_left; (· (intro w; go_simp; (try with_reducible rfl))); try simp only [Act.put, List.setIfInBounds_toArray, List.set_cons_zero, List.set_cons_succ])
              (refine wpAnyS_take0 8 ?_ rfl (by kernel_rfl) (by kernel_rfl) (by kernel_rfl) (by kernel_rfl) (fun _ _ _ h => h) (by rfl) ?_ (fun _ => HS) ?_; rotate_left; (· (intro w; go_simp; (try with_reducible rfl))); try simp only [Act.put, List.setIfInBounds_toArray, List.set_cons_zero, List.set_cons_succ])
              (refine wpAnyS_take 9 ?_ rfl (by kernel_rfl) (by kernel_rfl) (by kernel_rfl) (by kernel_rfl) (by kernel_rfl) (by kernel_rfl) (fun _ _ _ h => h) (by rfl) ?_ HS ?_; rotate_left; (· (intro w hSw; obtain ⟨s1, s2, s3⟩ := hSw; go_simp; (try with_reducible rfl))); try simp only [Act.put, List.setIfInBounds_toArray, List.set_cons_zero, List.set_cons_succ])
              (refine wpAnyS_take0 10 ?_ rfl (by kernel_rfl) (by kernel_rfl) (by kernel_rfl) (by kernel_rfl) (fun _ _ _ h => h) (by rfl) ?_ (fun _ => HS) ?_; rotate_left; (· (intro w; go_simp; (try with_reducible rfl))); try simp only [Act.put, List.setIfInBounds_toArray, List.set_cons_zero, List.set_cons_succ])
              (refine wpAnyS_take0 11 ?_ rfl (by kernel_rfl) (by kernel_rfl) (by kernel_rfl) (by kernel_rfl) (fun _ _ _ h => h) (by rfl) ?_ (fun _ => HS) ?_; rotate_left; (· (intro w; go_simp; (try with_reducible rfl))); try simp only [Act.put, List.setIfInBounds_toArray, List.set_cons_zero, List.set_cons_succ])
              (refine wpAnyS_take0 12 ?_ rfl (by kernel_rfl) (by kernel_rfl) (by kernel_rfl) (by kernel_rfl) (fun _ _ _ h => h) (by rfl) ?_ (fun _ => HS) ?_; rotate_left; (· (intro w; go_simp; (try with_reducible rfl))); try simp only [Act.put, List.setIfInBounds_toArray, List.set_cons_zero, List.set_cons_succ])
              (refine wpAnyS_take0 13 ?_ rfl (by kernel_rfl) (by kernel_rfl) (by kernel_rfl) (by kernel_rfl) (fun _ _ _ h => h) (by rfl) ?_ (fun _ => HS) ?_; rotate_left; (· (intro w; go_simp; (try with_reducible rfl))); try simp only [Act.put, List.setIfInBounds_toArray, List.set_cons_zero, List.set_cons_succ])
              (refine wpAnyS_take0 14 ?_ rfl (by kernel_rfl) (by kernel_rfl) (by kernel_rfl) (by kernel_rfl) (fun _ _ _ h => h) (by rfl) ?_ (fun _ => HS) ?_; rotate_left; (· (intro w; go_simp; (try with_reducible rfl))); try simp only [Act.put, List.setIfInBounds_toArray, List.set_cons_zero, List.set_cons_succ])
              (refine wpAnyS_take0 15 ?_ rfl (by kernel_rfl) (by kernel_rfl) (by kernel_rfl) (by kernel_rfl) (fun _ _ _ h => h) (by rfl) ?_ (fun _ => HS) ?_; rotate_left; (· (intro w; go_simp; (try with_reducible rfl))); try simp only [Act.put, List.setIfInBounds_toArray, List.set_cons_zero, List.set_cons_succ])
              (refine wpAnyS_take 16 ?_ rfl (by kernel_rfl) (by kernel_rfl) (by kernel_rfl) (by kernel_rfl) (by kernel_rfl) (by kernel_rfl) (fun _ _ _ h => h) (by rfl) ?_ HS ?_; rotate_left; (· (intro w hSw; obtain ⟨s1, s2, s3⟩ := hSw; go_simp; (try with_reducible rfl))); try simp only [Act.put, List.setIfInBounds_toArray, List.set_cons_zero, List.set_cons_succ])
              (refine wpAnyS_take0 17 ?_ rfl (by kernel_rfl) (by kernel_rfl) (by kernel_rfl) (by kernel_rfl) (fun _ _ _ h => h) (by rfl) ?_ (fun _ => HS) ?_; rotate_left; (· (intro w; go_simp; (try with_reducible rfl))); try simp only [Act.put, List.setIfInBounds_toArray, List.set_cons_zero, List.set_cons_succ])
              (refine wpAnyS_take0 18 ?_ rfl (by kernel_rfl) (by kernel_rfl) (by kernel_rfl) (by kernel_rfl) (fun _ _ _ h => h) (by rfl) ?_ (fun _ => HS) ?_; rotate_left; (· (intro w; go_simp; (try with_reducible rfl))); try simp only [Act.put, List.setIfInBounds_toArray, List.set_cons_zero, List.set_cons_succ])
              (refine wpAnyS_take0 19 ?_ rfl (by kernel_rfl) (by kernel_rfl) (by kernel_rfl) (by kernel_rfl) (fun _ _ _ h => h) (by rfl) ?_ (fun _ => HS) ?_; rotate_left; (· (intro w; go_simp; (try with_reducible rfl))); try simp only [Act.put, List.setIfInBounds_toArray, List.set_cons_zero, List.set_cons_succ])
              (refine wpAnyS_take0 20 ?_ rfl (by kernel_rfl) (by kernel_rfl) (by kernel_rfl) (by kernel_rfl) (fun _ _ _ h => h) (by rfl) ?_ (fun _ => HS) ?_; rotate_left; (· (intro w; go_simp; (try with_reducible rfl))); try simp only [Act.put, List.setIfInBounds_toArray, List.set_cons_zero, List.set_cons_succ])
              have q1 := P12.out.k.cell 2
              have f1 := P12.out.k.frozen 2
              have P13 := P12.out.store 2 (.slice ay p cy)
              simp at q1 P13
              have P13 := Lib.hid P13
              refine wpAnyS_one 21 rfl (by kernel_rfl) (by rfl) ?_
              intro K hK
              go_simp
              refine hK _ _ (fun h => absurd h (by decide +kernel)) ?_
              clear hK q1 f1 HS P12
              generalize wB.setCell ⟨g, 2, none⟩ (.slice ay p cy) = wC at P13 ⊢
              (refine wpAnyS_take0 22 ?_ rfl (by kernel_rfl) (by kernel_rfl) (by kernel_rfl) (by kernel_rfl) (fun _ _ _ h => h) (by rfl) ?_ (fun h => absurd h (by decide +kernel)) ?_; rotate_left; (· (intro w; go_simp; (try with_reducible rfl))); try simp only [Act.put, List.setIfInBounds_toArray, List.set_cons_zero, List.set_cons_succ])
              (refine wpAnyS_take0 23 ?_ rfl (by kernel_rfl) (by kernel_rfl) (by kernel_rfl) (by kernel_rfl) (fun _ _ _ h => h) (by rfl) ?_ (fun h => absurd h (by decide +kernel)) ?_; rotate_left; (· (intro w; go_simp; (try with_reducible rfl))); try simp only [Act.put, List.setIfInBounds_toArray, List.set_cons_zero, List.set_cons_succ])
              have q1 := P13.out.k.cell 3
              have f1 := P13.out.k.frozen 3
              have P14 := P13.out.store 3 (.int .i64 sum)
              simp at q1 P14
              have P14 := Lib.hid P14
              refine wpAnyS_one 24 rfl (by kernel_rfl) (by rfl) ?_
              intro K hK
              go_simp
              refine hK _ _ (fun h => absurd h (by decide +kernel)) ?_
              clear hK q1 f1 P13
              generalize wC.setCell ⟨g, 3, none⟩ (.int .i64 sum) = wD at P14 ⊢
              refine wpAnyS_done (by kernel_rfl) ?_
              go_upto_region 20 with fail
              refine wp_region_S (S18 g 1 1 1 (.slice (some ⟨gu, 0, none⟩) n uc) (.slice (some ⟨gu, 0, none⟩) n uc) (.slice (some ⟨gu, 0, none⟩) n uc)) 10 (by kernel_rfl) ?_
              have bd : Below wD.heap.size wD wD.drew := below_drew (Below.refl _ _)
              have P15 := Lib.hid (P14.out.keep bd)
              clear bd P14
              generalize wD.drew = wE at P15 ⊢
              have HS : S18 g 1 1 1 (.slice (some ⟨gu, 0, none⟩) n uc) (.slice (some ⟨gu, 0, none⟩) n uc) (.slice (some ⟨gu, 0, none⟩) n uc) wE := ⟨P15.out.k.cell 1, P15.out.k.cell 1, P15.out.k.cell 1⟩
              (refine wpAnyS_take0 0 ?_ rfl (by kernel_rfl) (by kernel_rfl) (by kernel_rfl) (by kernel_rfl) (fun _ _ _ h => h) (by rfl) ?_ (fun _ => HS) ?_; rotate_left; (· (intro w; go_simp; (try with_reducible rfl))); try simp only [Act.put, List.setIfInBounds_toArray, List.set_cons_zero, List.set_cons_succ])
              (refine wpAnyS_take0 1 ?_ rfl (by kernel_rfl) (by kernel_rfl) (by kernel_rfl) (by kernel_rfl) (fun _ _ _ h => h) (by rfl) ?_ (fun _ => HS) ?_; rotate_left; (· (intro w; go_simp; (try with_reducible rfl))); try simp only [Act.put, List.setIfInBounds_toArray, List.set_cons_zero, List.set_cons_succ])
              (refine wpAnyS_take0 2 ?_ rfl (by kernel_rfl) (by kernel_rfl) (by kernel_rfl) (by kernel_rfl) (fun _ _ _ h => h) (by rfl) ?_ (fun _ => HS) ?_; rotate_left; (· (intro w; go_simp; (try with_reducible rfl))); try simp only [Act.put, List.setIfInBounds_toArray, List.set_cons_zero, List.set_cons_succ])
              (refine wpAnyS_take 3 ?_ rfl (by kernel_rfl) (by kernel_rfl) (by kernel_rfl) (by kernel_rfl) (by kernel_rfl) (by kernel_rfl) (fun _ _ _ h => h) (by rfl) ?_ HS ?_; rotate_left; (· (intro w hSw; obtain ⟨s1, s2, s3⟩ := hSw; go_simp; (try with_reducible rfl))); try simp only [Act.put, List.setIfInBounds_toArray, List.set_cons_zero, List.set_cons_succ])
              (refine wpAnyS_take0 4 ?_ rfl (by kernel_rfl) (by kernel_rfl) (by kernel_rfl) (by kernel_rfl) (fun _ _ _ h => h) (by rfl) ?_ (fun _ => HS) ?_; rotate_left; (· (intro w; go_simp; (try with_reducible rfl))); try simp only [Act.put, List.setIfInBounds_toArray, List.set_cons_zero, List.set_cons_succ])
              (refine wpAnyS_take0 5 ?_ rfl (by kernel_rfl) (by kernel_rfl) (by kernel_rfl) (by kernel_rfl) (fun _ _ _ h => h) (by rfl) ?_ (fun _ => HS) ?_; rotate_left; (· (intro w; go_simp; (try with_reducible rfl))); try simp only [Act.put, List.setIfInBounds_toArray, List.set_cons_zero, List.set_cons_succ])
              (refine wpAnyS_take0 6 ?_ rfl (by kernel_rfl) (by kernel_rfl) (by kernel_rfl) (by kernel_rfl) (fun _ _ _ h => h) (by rfl) ?_ (fun _ => HS) ?_; rotate_left; (· (intro w; go_simp; (try with_reducible rfl))); try simp only [Act.put, List.setIfInBounds_toArray, List.set_cons_zero, List.set_cons_succ])
              (refine wpAnyS_take0 7 ?_ rfl (by kernel_rfl) (by kernel_rfl) (by kernel_rfl) (by kernel_rfl) (fun _ _ _ h => h) (by rfl) ?_ (fun _ => HS) ?_; rotate_left; (· (intro w; go_simp; (try with_reducible rfl))); try simp only [Act.put, List.setIfInBounds_toArray, List.set_cons_zero, List.set_cons_succ])
              (refine wpAnyS_take 8 ?_ rfl (by kernel_rfl) (by kernel_rfl) (by kernel_rfl) (by kernel_rfl) (by kernel_rfl) (by kernel_rfl) (fun _ _ _ h => h) (by rfl) ?_ HS ?_; rotate_left; (· (intro w hSw; obtain ⟨s1, s2, s3⟩ := hSw; go_simp; (try with_reducible rfl))); try simp only [Act.put, List.setIfInBounds_toArray, List.set_cons_zero, List.set_cons_succ])
              (refine wpAnyS_take0 9 ?_ rfl (by kernel_rfl) (by kernel_rfl) (by kernel_rfl) (by kernel_rfl) (fun _ _ _ h => h) (by rfl) ?_ (fun _ => HS) ?_; rotate_left; (· (intro w; go_simp; (try with_reducible rfl))); try simp only [Act.put, List.setIfInBounds_toArray, List.set_cons_zero, List.set_cons_succ])
              refine wpAnyS_one 10 rfl (by kernel_rfl) (by rfl) ?_
              intro K hK
              go_simp
              refine hK _ _ (fun h => absurd h (by decide +kernel)) ?_
              clear hK HS
              have il := (List.getElem?_eq_some_iff.1 IU.out).1
              have kl := (List.getElem?_eq_some_iff.1 IK.out).1
              have q1 : wE.cell? ⟨gu, i, none⟩ = some (.bool true) := by
                rw [P15.out.u.cell i]; refine bvs_get ?_
                rw [HU2.out, List.getElem?_set_ne (Ne.symm hne), List.getElem?_set_self il]
              have f1 := P15.out.u.frozen i
              have P16 := Lib.hid (P15.out.mark i false)
              refine wpAnyS_one 11 rfl (by kernel_rfl) (by rfl) ?_
              intro K hK
              go_simp
              refine hK _ _ (fun h => absurd h (by decide +kernel)) ?_
              clear hK q1 f1 P15
              generalize wE.setCell ⟨gu, i, none⟩ (.bool false) = wF at P16 ⊢
              refine wpAnyS_one 12 rfl (by kernel_rfl) (by rfl) ?_
              intro K hK
              go_simp
              refine hK _ _ (fun h => absurd h (by decide +kernel)) ?_
              clear hK
              have q1 : wF.cell? ⟨gu, k, none⟩ = some (.bool true) := by
                rw [P16.out.u.cell k]; refine bvs_get ?_
                rw [List.getElem?_set_ne hne, HU2.out, List.getElem?_set_self (by simp; exact kl)]
              have f1 := P16.out.u.frozen k
              have P17 := P16.out.mark k false
              rw [show (us2.set i false).set k false = us by rw [HU2.out]; exact set_back IU.out IK.out hne] at P17
              have P17 := Lib.hid P17
              refine wpAnyS_one 13 rfl (by kernel_rfl) (by rfl) ?_
              intro K hK
              go_simp
              refine hK _ _ (fun h => absurd h (by decide +kernel)) ?_
              clear hK q1 f1 P16 il kl
              generalize wF.setCell ⟨gu, k, none⟩ (.bool false) = wG at P17 ⊢
              refine wpAnyS_done (by kernel_rfl) ?_
              have RK : Hid (R = r.bind (fun s => lpP (fun k => !us.getD k false) (fun k st => psrch (gpL ds) d ((us.set i true).set k true) (prs ++ [(i, k)]) (sum + gpL ds i k) st) n (n - (k + 1)) s)) := Lib.hid (by
                have q := HRk.out
                rw [lpP_step hlt2, if_pos (by simp [IK.out]), ← HU2.out, ← GV.out, ← HRR.out] at q
                rw [← q]
                cases r <;> rfl)
              have LF : Hid (∀ s2, r = some s2 → s2.left ≤ 2000000000) := Lib.hid fun s2 e => by
                have := psrch_left d _ _ _ _ _ (HRR.out.symm.trans e)
                simp only at this
                omega
              cases r with
              | none =>
                go_wp2_with fail
                go_ret
                exact ⟨⟨tl, tb, tle, tso⟩, .slice ay p cy, z3, by rw [HE.out, RK.out]; rfl, (by rw [HE.out, RK.out]; intro s2 h; cases h), P17.out.at_ (st := ⟨tl, tb, tle, tso⟩), P17.out.f, P17.out.n1⟩
              | some s2 =>
                have e2 : (⟨tl, tb, tle, tso⟩ : PSt) = s2 := HS2.out s2 rfl
                subst e2
                go_wp2_with fail
                go_roundw
                case rel => exact ⟨k + 1, ⟨tl, tb, tle, tso⟩, .slice ay p cy, z3, by omega, by omega, by go_num, Lib.hid (by rw [RK.out]; rfl), P17, Lib.hid (LF.out _ rfl)⟩
                case measure => simp [intOf]; omega
            · have HN : Hid (lpP (fun k => !us.getD k false) (fun k st => psrch (gpL ds) d ((us.set i true).set k true) (prs ++ [(i, k)]) (sum + gpL ds i k) st) n (n - (k + 1)) stk = R) := Lib.hid (by
                have q := HRk.out
                rw [lpP_step hlt2, if_neg (by simp [hb])] at q
                exact q)
              clear hb
              go_wp2_with fail
              go_roundw
              case rel => exact ⟨k + 1, stk, .slice a1 p b1, u3, by omega, by omega, by go_num, HN, PK, LK⟩
              case measure => simp [intOf]; omega
          · obtain rfl : n = k := by omega
            have hc := PK.out.k.cell
            have HF : Hid (R = some stk) := Lib.hid (by rw [← HRk.out, Nat.sub_self, lpP])
            go_wp2_with fail
            go_ret
            exact ⟨stk, .slice a1 p b1, u3, by rw [HE.out, HF.out]; rfl, (by rw [HE.out, HF.out]; intro s2 h; injection h), PK.out.at_, PK.out.f, PK.out.n1⟩
end
end Go.Proofs.Ytoodlpgamlelaaa
