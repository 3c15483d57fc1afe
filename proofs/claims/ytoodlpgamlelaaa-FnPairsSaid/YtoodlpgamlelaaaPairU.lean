/- Pairs of planks: the reference's search, one pair at a time. -/
import Derived.Test.YtoodlpgamlelaaaPairT
import Derived.Test.YtoodlpgamlelaaaPairS
set_option linter.unusedVariables false
set_option linter.unusedSimpArgs false
namespace Go.Proofs.Ytoodlpgamlelaaa
open Go.RowKit

theorem QM.inner {g gu L n uc : Nat} {V1 : Value} {w0 w w2 : World} {cg cg2 : Array Value} {us us2 : List Bool} {x1 y1 v3 y3 : Value} {vs vs2 ws ws2 : List Value} {ps ps2 bs bs2 : List (Nat × Nat)} (h : QM g gu L n uc V1 w0 w cg us x1 vs ps v3 ws bs) (ha : QM g gu L n uc x1 w w2 cg2 us2 y1 vs2 ps2 y3 ws2 bs2) : QM g gu L n uc V1 w0 w2 cg2 us2 y1 vs2 ps2 y3 ws2 bs2 :=
  ⟨ha.k, ha.u, ha.o1, ha.o3, ha.r1, ha.r3, ha.d13, h.f.trans ha.f h.n1 (Nw.refl _ _), h.n1.trans ha.n1 h.f.size⟩
theorem rows_last {w : World} {vs : List Value} {ps : List (Nat × Nat)} {p : Nat × Nat} (h : RowsR w vs (ps ++ [p])) : ∃ vs0 u, vs = vs0 ++ [u] := by
  have hl : vs ≠ [] := by intro e; have := h.1; rw [e] at this; simp at this
  exact ⟨vs.dropLast, vs.getLast hl, (List.dropLast_concat_getLast hl).symm⟩
section
variable (ds : List PlankD) (g gu L B : Nat) (LA : Option Addr) (n lc uc : Nat) (budget : Int)
set_option maxRecDepth 100000 in
set_option maxHeartbeats 8000000 in
theorem pnext_s (n16 : n ≤ 16) (hds : ds.length = n) (hpl : ∀ x ∈ ds, plankR x) (d : Nat)
    (IH : ∀ (w : World) (us : List Bool) (ps : List (Nat × Nat)) (sum : Int) (st : PSt) (x1 v3 : Value) (vs ws : List Value) (least nodes : Int), PairN ds g gu L B LA n lc uc d budget w us ps sum st x1 v3 vs ws least nodes →
      Calls Try.prog 29 #[.pointer (some ⟨g, 0, none⟩), .int .i64 sum] w (PNextE g gu L LA n lc uc budget w us ps x1 (psrch (gpL ds) d us ps sum st)))
    (w : World) (us : List Bool) (ps : List (Nat × Nat)) (sum : Int) (st : PSt) (x1 v3 : Value) (vs ws : List Value) (least nodes : Int) (h : PairN ds g gu L B LA n lc uc (d + 1) budget w us ps sum st x1 v3 vs ws least nodes) :
    Calls Try.prog 29 #[.pointer (some ⟨g, 0, none⟩), .int .i64 sum] w (PNextE g gu L LA n lc uc budget w us ps x1 (psrch (gpL ds) (d + 1) us ps sum st)) := by
  have Q0 := h.q
  have C := Lib.hid h.c
  have cn := h.c.n
  have cn0 := h.c.n0
  have cb := h.c.b
  have UN := Lib.hid h.un
  have UL := Lib.hid h.ul
  have pd := h.pd
  have sb : 0 ≤ sum ∧ sum ≤ 1400000000000 := by have := h.s0; have := h.s1; omega
  have SS := Lib.hid h.s1
  have RD := Lib.hid h.rd
  have BG := Lib.hid h.bg
  have BU := Lib.hid h.bu
  have BL := Lib.hid h.bL
  have LW := Lib.hid h.lw
  have HDS := Lib.hid hds
  have IHH := Lib.hid IH
  have PL := Lib.hid hpl
  clear h hds hpl IH
  have FL := frst_lt (us := us) (by rw [UN.out]; omega)
  obtain ⟨i, hi⟩ : ∃ i, i = frst us := ⟨_, rfl⟩
  have IU : Hid (us[i]? = some false) := Lib.hid (by rw [hi]; exact frst_is FL)
  have IT : Hid (∀ j, j < i → us[j]? = some true) := Lib.hid (fun j hj => frst_true (by omega))
  have HI := Lib.hid hi
  have hin : i < n := by rw [hi, ← UL.out]; exact FL
  clear FL hi
  obtain ⟨A1, c1, rfl⟩ := own_valP Q0.o1
  obtain ⟨p, hp⟩ : ∃ p, p = ps.length := ⟨_, rfl⟩
  have HP := Lib.hid hp
  have p7 : p + d ≤ 7 := by rw [hp]; omega
  have hc := Q0.k.cell
  have hf := Q0.k.frozen
  have OB := Lib.hid (Q0.o1.lt)
  have Q1 := Q0.store 5 (.int .i64 (nodes + 1))
  simp at Q1
  have Q1 := Lib.hid Q1
  rw [← hp] at hc Q1 OB ⊢
  clear Q0 hp
  have wn : IntKind.i64.wrap (nodes + 1) = nodes + 1 := IntWalk.i64_in _ (by omega)
  go_enter Try.func29, Try.ntmps29
  go_upto_region 2 with fail
  generalize w.setCell ⟨g, 5, none⟩ (.int .i64 (nodes + 1)) = W at Q1 ⊢
  clear hc hf wn
  have C0 := bel_cell Q1.out.k Q1.out.k.lt
  by_cases l0 : st.left = 0
  · have HE : Hid (psrch (gpL ds) (d + 1) us ps sum st = none) := Lib.hid (by rw [psrch, if_pos l0])
    have dg : decide (budget < nodes + 1) = true := decide_eq_true (by omega)
    (refine wp_region_bel W.heap.size W (Below.refl _ _) (by kernel_rfl) (by kernel_rfl) ?_; (repeat (go_big_quiet_step ((first | fail)))); refine wpQuiet_nil ?_; rintro w2 ⟨⟨_, hb2⟩, rfl⟩)
    have Q2 := Lib.hid (Q1.out.keep hb2)
    clear C0 Q1 hb2
    go_wp2_with fail
    go_ret
    exact ⟨by rw [HE.out]; rfl, Q2.out.f, fun st' e => by rw [HE.out] at e; cases e⟩
  · have dg : decide (budget < nodes + 1) = false := decide_eq_false (by omega)
    have C1 := Lib.hid (C.out.step l0)
    obtain ⟨R, hR⟩ : ∃ R, R = lpP (fun k => !us.getD k false) (fun k st => psrch (gpL ds) d ((us.set i true).set k true) (ps ++ [(i, k)]) (sum + gpL ds i k) st) n (n - (i + 1)) ⟨st.left - 1, st.best, st.least, st.solved⟩ := ⟨_, rfl⟩
    have HE : Hid (psrch (gpL ds) (d + 1) us ps sum st = R) := Lib.hid (by
      rw [psrch, if_neg l0, if_neg (by rw [← HI.out, UL.out]; omega), ← HI.out, UL.out, hR])
    have HR0 := Lib.hid hR.symm
    clear l0 hR
    (refine wp_region_bel W.heap.size W (Below.refl _ _) (by kernel_rfl) (by kernel_rfl) ?_; (repeat (go_big_quiet_step ((first | fail)))); refine wpQuiet_nil ?_; rintro w2 ⟨⟨_, hb2⟩, rfl⟩)
    have Q2 := Lib.hid (Q1.out.keep hb2)
    clear C0 Q1 hb2 dg C
    have hc := Q2.out.k.cell
    have ne1 : ((i : Int) == n) = false := by simp; omega
    have ne2 : (i == n) = false := by simp; omega
    go_wp2_with fail
    go_loop [5] (fun kv => ∃ k : Nat, k ≤ i ∧ kv = .int .i64 k) (fun kv => i - (intOf kv).toNat)
    case atStart => exact ⟨0, Nat.zero_le _, rfl⟩
    case round =>
      obtain ⟨k, hk, rfl⟩ := hrel
      by_cases hlt : k < i
      · have hu : w2.cell? ⟨gu, k, none⟩ = some (.bool true) := by
          rw [Q2.out.u.cell k]
          exact bvs_get (IT.out k hlt)
        have hkn : k < n := by omega
        go_wp2_with fail
        go_round
        case rel => exact ⟨k + 1, by omega, by go_num⟩
        case measure => simp [intOf]; omega
      · obtain rfl : i = k := by omega
        have hu : w2.cell? ⟨gu, i, none⟩ = some (.bool false) := by
          rw [Q2.out.u.cell i]
          exact bvs_get IU.out
        have fu := Q2.out.u.frozen i
        have Q3 := Lib.hid (Q2.out.mark i true)
        go_upto_region 13 with fail
        generalize w2.setCell ⟨gu, i, none⟩ (.bool true) = w3 at Q3 ⊢
        clear hc hu fu Q2
        go_wp2_with fail
        go_loopw [6] (fun kv wr => ∃ (k : Nat) (stk : PSt) (u1 u3 : Value) (vs1 ws1 : List Value) (le1 no1 : Int), i < k ∧ k ≤ n ∧ kv = .int .i64 k ∧ Hid (lpP (fun k => !us.getD k false) (fun k st => psrch (gpL ds) d ((us.set i true).set k true) (ps ++ [(i, k)]) (sum + gpL ds i k) st) n (n - k) stk = R) ∧ Hid (QM g gu L n uc (.slice A1 p c1) w wr #[.slice LA n lc, .slice (some ⟨gu, 0, none⟩) n uc, u1, u3, .int .i64 le1, .int .i64 no1, .int .i64 budget] (us.set i true) u1 vs1 ps u3 ws1 stk.best) ∧ Hid (CntS stk le1 no1 budget)) (fun kv _ => n - (intOf kv).toNat)
        case atStart => exact ⟨i + 1, ⟨st.left - 1, st.best, st.least, st.solved⟩, .slice A1 p c1, v3, vs, ws, least, nodes + 1, by omega, by omega, by go_num, HR0, Q3, C1⟩
        case round =>
          obtain ⟨k, stk, u1, u3, vs1, ws1, le1, no1, hik, hkn, rfl, HRk, QK, CK⟩ := hrel
          obtain ⟨a1, b1, rfl⟩ := own_valP QK.out.o1
          rw [← HP.out] at QK
          by_cases hlt2 : k < n
          · obtain ⟨b, hb⟩ : ∃ b, us[k]? = some b := ⟨us[k]'(by rw [UL.out]; exact hlt2), List.getElem?_eq_getElem (by rw [UL.out]; exact hlt2)⟩
            have hne : i ≠ k := by omega
            have hu : wr.cell? ⟨gu, k, none⟩ = some (.bool b) := by
              rw [QK.out.u.cell k]
              exact bvs_get (by rw [List.getElem?_set_ne hne]; exact hb)
            have hc := QK.out.k.cell
            cases b
            · have IK : Hid (us[k]? = some false) := Lib.hid hb
              have SL : stk.left ≤ 2000000000 := by have := CK.out.n; have := CK.out.n0; have := CK.out.b; omega
              obtain ⟨x, hx, hxm⟩ := getD_of (l := ds) (i := i) (by rw [HDS.out]; exact hin)
              obtain ⟨y, hy, hym⟩ := getD_of (l := ds) (i := k) (by rw [HDS.out]; exact hlt2)
              have rx := PL.out x hxm
              have ry := PL.out y hym
              obtain ⟨gv, hgv⟩ : ∃ v, v = gpL ds i k := ⟨_, rfl⟩
              have GX : Hid (gapL x y = gv) := Lib.hid (by rw [hgv, gpL, getD_ok hx, getD_ok hy])
              have gb : 0 ≤ gv ∧ gv ≤ 200000000000 := by rw [← GX.out]; exact gap_bd rx ry
              have GV := Lib.hid hgv
              have BW : Below B w wr := QK.out.f.belowB BG.out (by have := LW.out; have := BL.out; omega) (fun q hq => by have := (OB.out q hq).1; have := BL.out; omega) (fun q hq => by simp [Value.ownBlock] at hq; subst hq; exact BU.out)
              obtain ⟨bl, ol, rfl, hbl, _⟩ := RD.out.at_ plankF_len (by omega)
              have HX := Lib.hid hx
              have HY := Lib.hid hy
              clear hxm hym hx hy hgv hb BW
              have hf := QK.out.u.frozen k
              have Q1 := Lib.hid (QK.out.mark k true)
              go_upto_region 18 with fail
              generalize wr.setCell ⟨gu, k, none⟩ (.bool true) = w4 at Q1 ⊢
              obtain ⟨us2, hus2⟩ : ∃ u, u = (us.set i true).set k true := ⟨_, rfl⟩
              rw [← hus2] at Q1
              have HU2 := Lib.hid hus2
              clear hc hu hf QK hus2
              have BF : Hid (∀ wz, Frm w wz g (.slice A1 p c1) (.slice (some ⟨gu, 0, none⟩) n uc) → Below B w wz) := Lib.hid (fun wz f => f.belowB BG.out (by have := LW.out; have := BL.out; omega) (fun q hq => by have := (OB.out q hq).1; have := BL.out; omega) (fun q hq => by simp [Value.ownBlock] at hq; subst hq; exact BU.out))
              have BA1 := (Below.refl w4.heap.size w4).alloc (Nat.le_refl _) (.cells #[.int .i64 (i : Int), .int .i64 (k : Int)] 2)
              have K5 := (Blk.new w4 2 #[.int .i64 (i : Int), .int .i64 (k : Int)]).alloc (.cells #[.slice (some ⟨w4.heap.size, 0, none⟩) 2 2] 31)
              have H5 := Blk.new (w4.alloc (.cells #[.int .i64 (i : Int), .int .i64 (k : Int)] 2)) 31 #[.slice (some ⟨w4.heap.size, 0, none⟩) 2 2]
              have e5 : (w4.alloc (.cells #[.int .i64 (i : Int), .int .i64 (k : Int)] 2)).heap.size = w4.heap.size + 1 := by simp
              rw [e5] at H5
              have BA2 := (Below.refl (w4.alloc (.cells #[.int .i64 (i : Int), .int .i64 (k : Int)] 2)).heap.size (w4.alloc (.cells #[.int .i64 (i : Int), .int .i64 (k : Int)] 2))).alloc (Nat.le_refl _) (.cells #[.slice (some ⟨w4.heap.size, 0, none⟩) 2 2] 31)
              have Q5 := Lib.hid ((Q1.out.keep BA1).keep BA2)
              have L5 := Lib.hid (show L ≤ ((w4.alloc (.cells #[.int .i64 (i : Int), .int .i64 (k : Int)] 2)).alloc (.cells #[.slice (some ⟨w4.heap.size, 0, none⟩) 2 2] 31)).heap.size by
                have := Q1.out.f.size
                have := BA1.size
                have := BA2.size
                have := LW.out
                omega)
              have K5 := Lib.hid K5
              have H5 := Lib.hid H5
              obtain ⟨m, hm⟩ : ∃ m, m = p + 1 := ⟨_, rfl⟩
              have HM := Lib.hid hm
              have hc := Q1.out.k.cell
              clear BA1 BA2 e5 hm
              go_upto_region 19 with (at_builtin; refine listAppH rfl (.tmp 108) (.tmp 112) rfl L (.slice a1 p b1) p m HM.out vs1 (.slice (some ⟨w4.heap.size, 0, none⟩) 2 2) rfl rfl (by have o := Q5.out.o1; rw [← HP.out] at o; exact o) (w4.heap.size + 1) rfl H5.out L5.out (by omega) ?_; intro q cap w6 o6 g6 l6; have Q6 := Lib.hid (Q5.out.app (i := i) (k := k) (by rw [← HP.out]; exact HM.out) K5.out o6 g6 l6); have L6 := Lib.hid (Nat.le_trans L5.out g6.size); have hc6 := Q6.out.k.cell; have hf6 := Q6.out.k.frozen; clear o6 g6 l6 hc)
              have Q7 := Q6.out.store 2 (.slice (some ⟨q, 0, none⟩) m cap)
              simp at Q7
              have Q7 := Lib.hid Q7
              have L6 : Hid (L ≤ (w6.setCell ⟨g, 2, none⟩ (.slice (some ⟨q, 0, none⟩) m cap)).heap.size) := Lib.hid (by have := L6.out; simpa using this)
              clear hc6 hf6 Q6 Q1 Q5 K5 H5 L5
              generalize w6.setCell ⟨g, 2, none⟩ (.slice (some ⟨q, 0, none⟩) m cap) = w6 at Q7 L6 ⊢
              have B6 := BF.out w6 Q7.out.f
              have LB6 : Hid (B ≤ w6.heap.size) := Lib.hid (by have := L6.out; have := BL.out; omega)
              have RD6 := Lib.hid (RD.out.below B6)
              have PX := Lib.hid (PlkAt.of RD6.out LB6.out HX.out hin rfl)
              have PY := Lib.hid (PlkAt.of RD6.out LB6.out HY.out hlt2 rfl)
              obtain ⟨r, hr⟩ : ∃ r, r = psrch (gpL ds) d us2 (ps ++ [(i, k)]) (sum + gv) stk := ⟨_, rfl⟩
              have IK2 : Hid ((us.set i true)[k]? = some false) := Lib.hid (by rw [List.getElem?_set_ne hne]; exact IK.out)
              obtain ⟨vs2, hvs2⟩ : ∃ v, v = vs1 ++ [Value.slice (some ⟨w4.heap.size, 0, none⟩) 2 2] := ⟨_, rfl⟩
              rw [← hvs2] at Q7
              have IHC : Hid (∀ wq, QM g gu L n uc (.slice A1 p c1) w wq #[.slice (some ⟨bl, ol, none⟩) n lc, .slice (some ⟨gu, 0, none⟩) n uc, .slice (some ⟨q, 0, none⟩) m cap, u3, .int .i64 le1, .int .i64 no1, .int .i64 budget] us2 (.slice (some ⟨q, 0, none⟩) m cap) vs2 (ps ++ [(i, k)]) u3 ws1 stk.best → L ≤ wq.heap.size → Rd wq B 6 (some ⟨bl, ol, none⟩) n (ds.flatMap plankF) →
                  Calls Try.prog 29 #[.pointer (some ⟨g, 0, none⟩), .int .i64 (sum + gv)] wq (PNextE g gu L (some ⟨bl, ol, none⟩) n lc uc budget wq us2 (ps ++ [(i, k)]) (.slice (some ⟨q, 0, none⟩) m cap) r)) := Lib.hid (fun wq hq hL hrd => by
                rw [hr]
                exact IHH.out wq us2 (ps ++ [(i, k)]) (sum + gv) stk _ _ vs2 ws1 le1 no1 ⟨⟨hq.k, hq.u, hq.o1, hq.o3, hq.r1, hq.r3, hq.d13, Frm.refl _ _ _ _, Nw.refl _ _⟩, CK.out, by rw [HU2.out]; simp; exact UL.out, (by
                  have h1 := unus_set IU.out
                  have h2 := unus_set IK2.out
                  have h3 := UN.out
                  rw [HU2.out]; omega), by rw [List.length_append, ← HP.out]; simp; omega, by omega, by have := SS.out; rw [List.length_append]; simp; omega, hrd, BG.out, BU.out, BL.out, hL⟩)
              have HRR := Lib.hid hr
              clear hr hvs2 B6
              go_cut [132] from 82 to 152 (fun c wz => c = .bool r.isNone ∧ Hid (Frm w wz g (.slice A1 p c1) (.slice (some ⟨gu, 0, none⟩) n uc)) ∧ Hid (∀ st', r = some st' → ∃ (y1 y3 : Value) (vs2 ws2 : List Value) (le2 no2 : Int), QM g gu L n uc (.slice A1 p c1) w wz #[.slice (some ⟨bl, ol, none⟩) n lc, .slice (some ⟨gu, 0, none⟩) n uc, y1, y3, .int .i64 le2, .int .i64 no2, .int .i64 budget] us2 y1 vs2 (ps ++ [(i, k)]) y3 ws2 st'.best ∧ CntS st' le2 no2 budget))
              case first =>
                refine wp_region_S (fun _ => True) 16 (by kernel_rfl) ?_
                have bd : Below w6.heap.size w6 w6.drew := below_drew (Below.refl _ _)
                have B7 := Lib.hid bd
                have Q7 := Lib.hid (Q7.out.keep bd)
                clear bd
                generalize w6.drew = w7 at Q7 B7 ⊢
                have HS : (fun _ : World => True) w7 := trivial
                have hc := Q7.out.k.cell
                have ti0 : (0 : Int) ≤ i := by omega
                have ti1 : (i : Int) < n := by omega
                have ti2 : (i : Int).toNat = i := by simp
                have tk0 : (0 : Int) ≤ k := by omega
                have tk1 : (k : Int) < n := by omega
                have tk2 : (k : Int).toNat = k := by simp
                (refine wpAnyS_take0 0 ?_ rfl (by kernel_rfl) (by kernel_rfl) (by kernel_rfl) (by kernel_rfl) (fun _ _ _ h => h) (by rfl) ?_ (fun _ => HS) ?_; rotate_left; (· (intro w; go_simp; (try with_reducible rfl))); try simp only [Act.put, List.setIfInBounds_toArray, List.set_cons_zero, List.set_cons_succ])
                (refine wpAnyS_take0 1 ?_ rfl (by kernel_rfl) (by kernel_rfl) (by kernel_rfl) (by kernel_rfl) (fun _ _ _ h => h) (by rfl) ?_ (fun _ => HS) ?_; rotate_left; (· (intro w; go_simp; (try with_reducible rfl))); try simp only [Act.put, List.setIfInBounds_toArray, List.set_cons_zero, List.set_cons_succ])
                (refine wpAnyS_take0 2 ?_ rfl (by kernel_rfl) (by kernel_rfl) (by kernel_rfl) (by kernel_rfl) (fun _ _ _ h => h) (by rfl) ?_ (fun _ => HS) ?_; rotate_left; (· (intro w; go_simp; (try with_reducible rfl))); try simp only [Act.put, List.setIfInBounds_toArray, List.set_cons_zero, List.set_cons_succ])
                (refine wpAnyS_take0 3 ?_ rfl (by kernel_rfl) (by kernel_rfl) (by kernel_rfl) (by kernel_rfl) (fun _ _ _ h => h) (by rfl) ?_ (fun _ => HS) ?_; rotate_left; (· (intro w; go_simp; (try with_reducible rfl))); try simp only [Act.put, List.setIfInBounds_toArray, List.set_cons_zero, List.set_cons_succ])
                (refine wpAnyS_take0 4 ?_ rfl (by kernel_rfl) (by kernel_rfl) (by kernel_rfl) (by kernel_rfl) (fun _ _ _ h => h) (by rfl) ?_ (fun _ => HS) ?_; rotate_left; (· (intro w; go_simp; (try with_reducible rfl))); try simp only [Act.put, List.setIfInBounds_toArray, List.set_cons_zero, List.set_cons_succ])
                (refine wpAnyS_take0 6 ?_ rfl (by kernel_rfl) (by kernel_rfl) (by kernel_rfl) (by kernel_rfl) (fun _ _ _ h => h) (by rfl) ?_ (fun _ => HS) ?_; rotate_left; (· (intro w; go_simp; (try with_reducible rfl))); try simp only [Act.put, List.setIfInBounds_toArray, List.set_cons_zero, List.set_cons_succ])
                (refine wpAnyS_take0 8 ?_ rfl (by kernel_rfl) (by kernel_rfl) (by kernel_rfl) (by kernel_rfl) (fun _ _ _ h => h) (by rfl) ?_ (fun _ => HS) ?_; rotate_left; (· (intro w; go_simp; (try with_reducible rfl))); try simp only [Act.put, List.setIfInBounds_toArray, List.set_cons_zero, List.set_cons_succ])
                (refine wpAnyS_take0 9 ?_ rfl (by kernel_rfl) (by kernel_rfl) (by kernel_rfl) (by kernel_rfl) (fun _ _ _ h => h) (by rfl) ?_ (fun _ => HS) ?_; rotate_left; (· (intro w; go_simp; (try with_reducible rfl))); try simp only [Act.put, List.setIfInBounds_toArray, List.set_cons_zero, List.set_cons_succ])
                (refine wpAnyS_take0 10 ?_ rfl (by kernel_rfl) (by kernel_rfl) (by kernel_rfl) (by kernel_rfl) (fun _ _ _ h => h) (by rfl) ?_ (fun _ => HS) ?_; rotate_left; (· (intro w; go_simp; (try with_reducible rfl))); try simp only [Act.put, List.setIfInBounds_toArray, List.set_cons_zero, List.set_cons_succ])
                (refine wpAnyS_take0 12 ?_ rfl (by kernel_rfl) (by kernel_rfl) (by kernel_rfl) (by kernel_rfl) (fun _ _ _ h => h) (by rfl) ?_ (fun _ => HS) ?_; rotate_left; (· (intro w; go_simp; (try with_reducible rfl))); try simp only [Act.put, List.setIfInBounds_toArray, List.set_cons_zero, List.set_cons_succ])
                refine wpAnyS_two 5 11 rfl rfl (by kernel_rfl) (by rfl) (by rfl) ?_ ?_
                · intro K hK
                  go_simp
                  refine hK _ _ (fun _ => trivial) ?_
                  clear hK
                  (refine wpAnyS_take0 7 ?_ rfl (by kernel_rfl) (by kernel_rfl) (by kernel_rfl) (by kernel_rfl) (fun _ _ _ h => h) (by rfl) ?_ (fun _ => HS) ?_; rotate_left; (· (intro w; go_simp; (try with_reducible rfl))); try simp only [Act.put, List.setIfInBounds_toArray, List.set_cons_zero, List.set_cons_succ])
                  refine wpAnyS_one 11 rfl (by kernel_rfl) (by rfl) ?_
                  intro K hK
                  go_simp
                  refine hK _ _ (fun _ => trivial) ?_
                  clear hK
                  (refine wpAnyS_take0 13 ?_ rfl (by kernel_rfl) (by kernel_rfl) (by kernel_rfl) (by kernel_rfl) (fun _ _ _ h => h) (by rfl) ?_ (fun _ => HS) ?_; rotate_left; (· (intro w; go_simp; (try with_reducible rfl))); try simp only [Act.put, List.setIfInBounds_toArray, List.set_cons_zero, List.set_cons_succ])
                  refine wpAnyS_one 14 rfl (by kernel_rfl) (by rfl) ?_
                  intro K hK
                  go_simp
                  refine (l03Gap_g bl (ol + i * 6) bl (ol + k * 6) x y w7 rx ry (PX.out.next B7.out) (PY.out.next B7.out)).mono ?_
                  rintro r8 w8 ⟨rfl, hb8⟩
                  rw [GX.out]
                  have Q8 := Lib.hid (Q7.out.keep hb8)
                  have B8 := Lib.hid (below_more B7.out hb8 (Nat.le_refl _))
                  try simp only [Act.put, List.setIfInBounds_toArray, List.set_cons_zero, List.set_cons_succ]
                  refine hK _ _ (fun _ => trivial) ?_
                  clear hK hb8 Q7 B7
                  have ws : IntKind.i64.wrap (sum + gv) = sum + gv := IntWalk.i64_in _ (by omega)
                  (refine wpAnyS_take0 15 ?_ rfl (by kernel_rfl) (by kernel_rfl) (by kernel_rfl) (by kernel_rfl) (fun _ _ _ h => h) (by rfl) ?_ (fun _ => HS) ?_; rotate_left; (· (intro w; go_simp; (try with_reducible rfl))); try simp only [Act.put, List.setIfInBounds_toArray, List.set_cons_zero, List.set_cons_succ])
                  refine wpAnyS_one 16 rfl (by kernel_rfl) (by rfl) ?_
                  intro K hK
                  go_simp
                  refine (IHC.out w8 Q8.out (by have := L6.out; have := B8.out.size; omega) (RD6.out.below (B8.out.mono LB6.out))).mono ?_
                  rintro r9 w9 ⟨rfl, F9, H9⟩
                  have FF9 : Hid (Frm w w9 g (.slice A1 p c1) (.slice (some ⟨gu, 0, none⟩) n uc)) := Lib.hid (Q8.out.f.trans F9 Q8.out.n1 (Nw.refl _ _))
                  have HH9 := Lib.hid (fun st' e => by
                    obtain ⟨y1, y3, vs2, ws2, le2, no2, q, c⟩ := H9 st' e
                    exact (⟨y1, y3, vs2, ws2, le2, no2, Q8.out.inner q, c⟩ : ∃ (y1 y3 : Value) (vs2 ws2 : List Value) (le2 no2 : Int), QM g gu L n uc (.slice A1 p c1) w w9 #[.slice (some ⟨bl, ol, none⟩) n lc, .slice (some ⟨gu, 0, none⟩) n uc, y1, y3, .int .i64 le2, .int .i64 no2, .int .i64 budget] us2 y1 vs2 (ps ++ [(i, k)]) y3 ws2 st'.best ∧ CntS st' le2 no2 budget))
                  clear F9 H9 Q8 B8
                  try simp only [Act.put, List.setIfInBounds_toArray, List.set_cons_zero, List.set_cons_succ]
                  refine hK _ _ (fun h => absurd h (by decide +kernel)) ?_
                  clear hK
                  refine wpAnyS_done (by kernel_rfl) ?_
                  go_wp2_with fail
                  go_meet
                  exact ⟨rfl, FF9, HH9⟩
                · intro K hK
                  go_simp
                  refine hK _ _ (fun _ => trivial) ?_
                  clear hK
                  (refine wpAnyS_take0 13 ?_ rfl (by kernel_rfl) (by kernel_rfl) (by kernel_rfl) (by kernel_rfl) (fun _ _ _ h => h) (by rfl) ?_ (fun _ => HS) ?_; rotate_left; (· (intro w; go_simp; (try with_reducible rfl))); try simp only [Act.put, List.setIfInBounds_toArray, List.set_cons_zero, List.set_cons_succ])
                  refine wpAnyS_one 5 rfl (by kernel_rfl) (by rfl) ?_
                  intro K hK
                  go_simp
                  refine hK _ _ (fun _ => trivial) ?_
                  clear hK
                  (refine wpAnyS_take0 7 ?_ rfl (by kernel_rfl) (by kernel_rfl) (by kernel_rfl) (by kernel_rfl) (fun _ _ _ h => h) (by rfl) ?_ (fun _ => HS) ?_; rotate_left; (· (intro w; go_simp; (try with_reducible rfl))); try simp only [Act.put, List.setIfInBounds_toArray, List.set_cons_zero, List.set_cons_succ])
                  refine wpAnyS_one 14 rfl (by kernel_rfl) (by rfl) ?_
                  intro K hK
                  go_simp
                  refine (l03Gap_g bl (ol + i * 6) bl (ol + k * 6) x y w7 rx ry (PX.out.next B7.out) (PY.out.next B7.out)).mono ?_
                  rintro r8 w8 ⟨rfl, hb8⟩
                  rw [GX.out]
                  have Q8 := Lib.hid (Q7.out.keep hb8)
                  have B8 := Lib.hid (below_more B7.out hb8 (Nat.le_refl _))
                  try simp only [Act.put, List.setIfInBounds_toArray, List.set_cons_zero, List.set_cons_succ]
                  refine hK _ _ (fun _ => trivial) ?_
                  clear hK hb8 Q7 B7
                  have ws : IntKind.i64.wrap (sum + gv) = sum + gv := IntWalk.i64_in _ (by omega)
                  (refine wpAnyS_take0 15 ?_ rfl (by kernel_rfl) (by kernel_rfl) (by kernel_rfl) (by kernel_rfl) (fun _ _ _ h => h) (by rfl) ?_ (fun _ => HS) ?_; rotate_left; (· (intro w; go_simp; (try with_reducible rfl))); try simp only [Act.put, List.setIfInBounds_toArray, List.set_cons_zero, List.set_cons_succ])
                  refine wpAnyS_one 16 rfl (by kernel_rfl) (by rfl) ?_
                  intro K hK
                  go_simp
                  refine (IHC.out w8 Q8.out (by have := L6.out; have := B8.out.size; omega) (RD6.out.below (B8.out.mono LB6.out))).mono ?_
                  rintro r9 w9 ⟨rfl, F9, H9⟩
                  have FF9 : Hid (Frm w w9 g (.slice A1 p c1) (.slice (some ⟨gu, 0, none⟩) n uc)) := Lib.hid (Q8.out.f.trans F9 Q8.out.n1 (Nw.refl _ _))
                  have HH9 := Lib.hid (fun st' e => by
                    obtain ⟨y1, y3, vs2, ws2, le2, no2, q, c⟩ := H9 st' e
                    exact (⟨y1, y3, vs2, ws2, le2, no2, Q8.out.inner q, c⟩ : ∃ (y1 y3 : Value) (vs2 ws2 : List Value) (le2 no2 : Int), QM g gu L n uc (.slice A1 p c1) w w9 #[.slice (some ⟨bl, ol, none⟩) n lc, .slice (some ⟨gu, 0, none⟩) n uc, y1, y3, .int .i64 le2, .int .i64 no2, .int .i64 budget] us2 y1 vs2 (ps ++ [(i, k)]) y3 ws2 st'.best ∧ CntS st' le2 no2 budget))
                  clear F9 H9 Q8 B8
                  try simp only [Act.put, List.setIfInBounds_toArray, List.set_cons_zero, List.set_cons_succ]
                  refine hK _ _ (fun h => absurd h (by decide +kernel)) ?_
                  clear hK
                  refine wpAnyS_done (by kernel_rfl) ?_
                  go_wp2_with fail
                  go_meet
                  exact ⟨rfl, FF9, HH9⟩
              case rest =>
                obtain ⟨rfl, FF, HH⟩ := hcut
                generalize wc = w9 at FF HH ⊢
                have RK : Hid (R = r.bind (fun s => lpP (fun k => !us.getD k false) (fun k st => psrch (gpL ds) d ((us.set i true).set k true) (ps ++ [(i, k)]) (sum + gpL ds i k) st) n (n - (k + 1)) s)) := Lib.hid (by
                  have q := HRk.out
                  rw [lpP_step hlt2, if_pos (by simp [IK.out]), ← HU2.out, ← GV.out, ← HRR.out] at q
                  rw [← q]
                  cases r <;> rfl)
                clear IHC Q7 L6 PX PY
                cases r with
                | none =>
                  go_wp2_with fail
                  go_ret
                  exact ⟨by rw [HE.out, RK.out]; rfl, FF.out, fun st' e => by rw [HE.out, RK.out] at e; cases e⟩
                | some s2 =>
                  obtain ⟨y1, y3, vs3, ws3, le2, no2, q9, c9⟩ := HH.out s2 rfl
                  have C9 := Lib.hid c9
                  obtain ⟨ay, cy, rfl⟩ := own_valP q9.o1
                  have ml : (ps ++ [(i, k)]).length = m := by rw [List.length_append, ← HP.out, HM.out]; rfl
                  have cpy : m ≤ cy := by have o := q9.o1; exact ml ▸ own_capP o
                  rw [ml] at q9
                  obtain ⟨vs0, u0, rfl⟩ := rows_last q9.r1
                  have em : (m : Int) - 1 = p := by have := HM.out; omega
                  have im : p ≤ m := by have := HM.out; omega
                  have cpp : p ≤ cy := by omega
                  have wpp : IntKind.i64.wrap (p : Int) = p := IntWalk.i64_in _ (by omega)
                  have cp0 : (0 : Int) ≤ p := by omega
                  have cp1 : (p : Int) ≤ cy := by omega
                  have cp2 : (p : Int).toNat = p := by simp
                  have Q10 := Lib.hid (q9.cut HM.out HP.out.symm)
                  clear q9 c9 ml HH
                  go_upto_region 21 with fail
                  refine wp_region_S (S18 g 2 2 2 (.slice ay m cy) (.slice ay m cy) (.slice ay m cy)) 14 (by kernel_rfl) ?_
                  have bd : Below w9.heap.size w9 w9.drew := below_drew (Below.refl _ _)
                  have Q11 := Lib.hid (Q10.out.keep bd)
                  clear bd Q10
                  generalize w9.drew = wB at Q11 ⊢
                  have HS : S18 g 2 2 2 (.slice ay m cy) (.slice ay m cy) (.slice ay m cy) wB := ⟨Q11.out.k.cell 2, Q11.out.k.cell 2, Q11.out.k.cell 2⟩
                  (refine wpAnyS_take0 0 ?_ rfl (by kernel_rfl) (by kernel_rfl) (by kernel_rfl) (by kernel_rfl) (fun _ _ _ h => h) (by rfl) ?_ (fun _ => HS) ?_; rotate_left; (· (intro w; go_simp; (try with_reducible rfl))); try simp only [Act.put, List.setIfInBounds_toArray, List.set_cons_zero, List.set_cons_succ])
                  (refine wpAnyS_take0 1 ?_ rfl (by kernel_rfl) (by kernel_rfl) (by kernel_rfl) (by kernel_rfl) (fun _ _ _ h => h) (by rfl) ?_ (fun _ => HS) ?_; rotate_left; (· (intro w; go_simp; (try with_reducible rfl))); try simp only [Act.put, List.setIfInBounds_toArray, List.set_cons_zero, List.set_cons_succ])
                  (refine wpAnyS_take0 2 ?_ rfl (by kernel_rfl) (by kernel_rfl) (by kernel_rfl) (by kernel_rfl) (fun _ _ _ h => h) (by rfl) ?_ (fun _ => HS) ?_; rotate_left; (· (intro w; go_simp; (try with_reducible rfl))); try simp only [Act.put, List.setIfInBounds_toArray, List.set_cons_zero, List.set_cons_succ])
                  (refine wpAnyS_take0 3 ?_ rfl (by kernel_rfl) (by kernel_rfl) (by kernel_rfl) (by kernel_rfl) (fun _ _ _ h => h) (by rfl) ?_ (fun _ => HS) ?_; rotate_left; (· (intro w; go_simp; (try with_reducible rfl))); try simp only [Act.put, List.setIfInBounds_toArray, List.set_cons_zero, List.set_cons_succ])
                  (refine wpAnyS_take 4 ?_ rfl (by kernel_rfl) (by kernel_rfl) (by kernel_rfl) (by kernel_rfl) (by kernel_rfl) (by kernel_rfl) (fun _ _ _ h => h) (by rfl) ?_ HS ?_; rotate_left; (· (intro w hSw; obtain ⟨s1, s2, s3⟩ := hSw; go_simp; (try with_reducible rfl))); try simp only [Act.put, List.setIfInBounds_toArray, List.set_cons_zero, List.set_cons_succ])
                  (refine wpAnyS_take0 5 ?_ rfl (by kernel_rfl) (by kernel_rfl) (by kernel_rfl) (by kernel_rfl) (fun _ _ _ h => h) (by rfl) ?_ (fun _ => HS) ?_; rotate_left; (· (intro w; go_simp; (try with_reducible rfl))); try simp only [Act.put, List.setIfInBounds_toArray, List.set_cons_zero, List.set_cons_succ])
                  (refine wpAnyS_take0 6 ?_ rfl (by kernel_rfl) (by kernel_rfl) (by kernel_rfl) (by kernel_rfl) (fun _ _ _ h => h) (by rfl) ?_ (fun _ => HS) ?_; rotate_left; (· (intro w; go_simp; (try with_reducible rfl))); try simp only [Act.put, List.setIfInBounds_toArray, List.set_cons_zero, List.set_cons_succ])
                  (refine wpAnyS_take0 7 ?_ rfl (by kernel_rfl) (by kernel_rfl) (by kernel_rfl) (by kernel_rfl) (fun _ _ _ h => h) (by rfl) ?_ (fun _ => HS) ?_; rotate_left; (· (intro w; go_simp; (try with_reducible rfl))); try simp only [Act.put, List.setIfInBounds_toArray, List.set_cons_zero, List.set_cons_succ])
                  (refine wpAnyS_take 8 ?_ rfl (by kernel_rfl) (by kernel_rfl) (by kernel_rfl) (by kernel_rfl) (by kernel_rfl) (by kernel_rfl) (fun _ _ _ h => h) (by rfl) ?_ HS ?_; rotate_left; (· (intro w hSw; obtain ⟨s1, s2, s3⟩ := hSw; go_simp; (try with_reducible rfl))); try simp only [Act.put, List.setIfInBounds_toArray, List.set_cons_zero, List.set_cons_succ])
                  (refine wpAnyS_take0 9 ?_ rfl (by kernel_rfl) (by kernel_rfl) (by kernel_rfl) (by kernel_rfl) (fun _ _ _ h => h) (by rfl) ?_ (fun _ => HS) ?_; rotate_left; (· (intro w; go_simp; (try with_reducible rfl))); try simp only [Act.put, List.setIfInBounds_toArray, List.set_cons_zero, List.set_cons_succ])
                  (refine wpAnyS_take0 10 ?_ rfl (by kernel_rfl) (by kernel_rfl) (by kernel_rfl) (by kernel_rfl) (fun _ _ _ h => h) (by rfl) ?_ (fun _ => HS) ?_; rotate_left; (· (intro w; go_simp; (try with_reducible rfl))); try simp only [Act.put, List.setIfInBounds_toArray, List.set_cons_zero, List.set_cons_succ])
                  (refine wpAnyS_take0 11 ?_ rfl (by kernel_rfl) (by kernel_rfl) (by kernel_rfl) (by kernel_rfl) (fun _ _ _ h => h) (by rfl) ?_ (fun _ => HS) ?_; rotate_left; (· (intro w; go_simp; (try with_reducible rfl))); try simp only [Act.put, List.setIfInBounds_toArray, List.set_cons_zero, List.set_cons_succ])
                  (refine wpAnyS_take0 12 ?_ rfl (by kernel_rfl) (by kernel_rfl) (by kernel_rfl) (by kernel_rfl) (fun _ _ _ h => h) (by rfl) ?_ (fun _ => HS) ?_; rotate_left; (· (intro w; go_simp; (try with_reducible rfl))); try simp only [Act.put, List.setIfInBounds_toArray, List.set_cons_zero, List.set_cons_succ])
                  (refine wpAnyS_take0 13 ?_ rfl (by kernel_rfl) (by kernel_rfl) (by kernel_rfl) (by kernel_rfl) (fun _ _ _ h => h) (by rfl) ?_ (fun _ => HS) ?_; rotate_left; (· (intro w; go_simp; (try with_reducible rfl))); try simp only [Act.put, List.setIfInBounds_toArray, List.set_cons_zero, List.set_cons_succ])
                  have q1 := Q11.out.k.cell 2
                  have f1 := Q11.out.k.frozen 2
                  have Q12 := Q11.out.store 2 (.slice ay p cy)
                  simp at q1 Q12
                  have Q12 := Lib.hid Q12
                  refine wpAnyS_one 14 rfl (by kernel_rfl) (by rfl) ?_
                  intro K hK
                  go_simp
                  refine hK _ _ (fun h => absurd h (by decide +kernel)) ?_
                  clear hK q1 f1 HS Q11
                  generalize wB.setCell ⟨g, 2, none⟩ (.slice ay p cy) = wC at Q12 ⊢
                  refine wpAnyS_done (by kernel_rfl) ?_
                  have il := (List.getElem?_eq_some_iff.1 IU.out).1
                  have kl := (List.getElem?_eq_some_iff.1 IK.out).1
                  have hu : wC.cell? ⟨gu, k, none⟩ = some (.bool true) := by
                    rw [Q12.out.u.cell k]; refine bvs_get ?_
                    rw [HU2.out, List.getElem?_set_self (by simp; exact kl)]
                  have hc := Q12.out.k.cell
                  have hf := Q12.out.u.frozen k
                  have Q13 := Q12.out.mark k false
                  rw [show us2.set k false = us.set i true by
                    rw [HU2.out, List.set_set]
                    apply List.ext_getElem?
                    intro j
                    by_cases e : k = j
                    · subst e; rw [List.getElem?_set_self (by simp; exact kl), List.getElem?_set_ne hne, IK.out]
                    · rw [List.getElem?_set_ne e]] at Q13
                  have Q13 := Lib.hid Q13
                  clear Q12 il kl
                  go_wp2_with fail
                  go_roundw
                  case rel => exact ⟨k + 1, s2, .slice ay p cy, y3, vs0, ws3, le2, no2, by omega, by omega, by go_num, Lib.hid (by rw [RK.out]; rfl), Q13, C9⟩
                  case measure => simp [intOf]; omega
            · have HN : Hid (lpP (fun k => !us.getD k false) (fun k st => psrch (gpL ds) d ((us.set i true).set k true) (ps ++ [(i, k)]) (sum + gpL ds i k) st) n (n - (k + 1)) stk = R) := Lib.hid (by
                have q := HRk.out
                rw [lpP_step hlt2, if_neg (by simp [hb])] at q
                exact q)
              clear hb
              go_wp2_with fail
              go_roundw
              case rel => exact ⟨k + 1, stk, .slice a1 p b1, u3, vs1, ws1, le1, no1, by omega, by omega, by go_num, HN, QK, CK⟩
              case measure => simp [intOf]; omega
          · obtain rfl : n = k := by omega
            have hc := QK.out.k.cell
            have HF : Hid (R = some stk) := Lib.hid (by rw [← HRk.out, Nat.sub_self, lpP])
            have il := (List.getElem?_eq_some_iff.1 IU.out).1
            have hu : wr.cell? ⟨gu, i, none⟩ = some (.bool true) := by
              rw [QK.out.u.cell i]
              exact bvs_get (by rw [List.getElem?_set_self il])
            have fu := QK.out.u.frozen i
            have Q9 := QK.out.mark i false
            rw [show (us.set i true).set i false = us by
              rw [List.set_set]
              apply List.ext_getElem?
              intro j
              by_cases e : i = j
              · subst e; rw [List.getElem?_set_self il, IU.out]
              · rw [List.getElem?_set_ne e]] at Q9
            have Q9 := Lib.hid Q9
            clear QK
            go_wp2_with fail
            go_ret
            exact ⟨by rw [HE.out, HF.out]; rfl, Q9.out.f, fun st' e => by
              rw [HE.out, HF.out] at e
              injection e with e
              subst e
              exact ⟨_, _, vs1, ws1, le1, no1, Q9.out, CK.out⟩⟩
end
end Go.Proofs.Ytoodlpgamlelaaa
