/- The law FnPairs. -/
import Derived.Test.YtoodlpgamlelaaaPairL
import Derived.Test.YtoodlpgamlelaaaPairD
import Derived.Test.YtoodlpgamlelaaaPairG
import Derived.Test.YtoodlpgamlelaaaBytes
import Derived.Test.YtoodlpgamlelaaaLong
import Derived.StillTailTactics
import Derived.Deep.DeepCutAuto
set_option linter.unusedVariables false
set_option linter.unusedSimpArgs false
namespace Go.Proofs.Ytoodlpgamlelaaa
open Go.RowKit

/-- a plank's cells, in a world of the class -/
theorem plk_bel {w : World} {n b o i : Nat} {ds : List PlankD} {x : PlankD} (h : Rd w w.heap.size 6 (some ⟨b, o, none⟩) n (ds.flatMap plankF)) (hx : ds[i]? = some x) (hi : i < n) :
    (∀ u : Bel w.heap.size w, u.val.cell? ⟨b, o + i * 6, none⟩ = some (.string x.s0)) ∧ (∀ u : Bel w.heap.size w, u.val.cell? ⟨b, o + i * 6 + 1, none⟩ = some (.int .i64 x.a1)) ∧ (∀ u : Bel w.heap.size w, u.val.cell? ⟨b, o + i * 6 + 2, none⟩ = some (.int .i64 x.a2)) ∧ (∀ u : Bel w.heap.size w, u.val.cell? ⟨b, o + i * 6 + 3, none⟩ = some (.int .i64 x.a3)) ∧ (∀ u : Bel w.heap.size w, u.val.cell? ⟨b, o + i * 6 + 4, none⟩ = some (.int .i64 x.a4)) ∧ (∀ u : Bel w.heap.size w, u.val.cell? ⟨b, o + i * 6 + 5, none⟩ = some (.int .i64 x.a5)) := by
  obtain ⟨b', o', e, hl, hc⟩ := h.at_ plankF_len (by omega)
  injection e with e
  injection e with e1 e2
  subst e1 e2
  exact ⟨bel_at (hc i x 0 _ hx rfl) hl, bel_at (hc i x 1 _ hx rfl) hl, bel_at (hc i x 2 _ hx rfl) hl, bel_at (hc i x 3 _ hx rfl) hl, bel_at (hc i x 4 _ hx rfl) hl, bel_at (hc i x 5 _ hx rfl) hl⟩
theorem rowsP_get {ps : List (Nat × Nat)} {k a b : Nat} (h : ps[k]? = some (a, b)) : (rowsP ps)[k]? = some [(a : Int), (b : Int)] := by
  rw [rowsP, List.getElem?_map, h]; rfl
theorem gS_bd {gp : Nat → Nat → Int} (hg : ∀ a b, 0 ≤ gp a b ∧ gp a b ≤ 200000000000) : ∀ ps : List (Nat × Nat), 0 ≤ gS gp ps ∧ gS gp ps ≤ 200000000000 * ps.length
  | [] => by simp [gS]
  | p :: ps => by
    have a := gS_bd hg ps
    have b := hg p.1 p.2
    rw [gS, List.length_cons]
    push_cast
    omega
theorem sumTo_bd {f : Nat → Int} (hf : ∀ t, 0 ≤ f t ∧ f t ≤ 200000000000) : ∀ k, 0 ≤ sumTo f k ∧ sumTo f k ≤ 200000000000 * k
  | 0 => by simp [sumTo]
  | k + 1 => by
    have a := sumTo_bd hf k
    have b := hf k
    rw [sumTo]
    push_cast
    omega
theorem gS_take {gp : Nat → Nat → Int} {ps : List (Nat × Nat)} {k a b : Nat} (h : ps[k]? = some (a, b)) : gS gp (ps.take (k + 1)) = gS gp (ps.take k) + gp a b := by
  have hk := (List.getElem?_eq_some_iff.1 h).1
  rw [List.take_succ_eq_append_getElem hk, (List.getElem?_eq_some_iff.1 h).2, gS_app]
theorem planksB_p {ds : List PlankD} (h : planksB ds = true) {x : PlankD} (hx : x ∈ ds) : plankP x = true := by
  unfold planksB at h
  rw [Bool.and_eq_true] at h
  exact ordB_mem h.1 hx
theorem den_bd {ds : List PlankD} (h : ∀ x ∈ ds, plankR x) (i : Nat) : (0 ≤ densL (ds.getD i c0P) ∧ densL (ds.getD i c0P) ≤ 100000000001) ∧ (0 ≤ rngL (ds.getD i c0P) ∧ rngL (ds.getD i c0P) ≤ 200001) := by
  rcases Nat.lt_or_ge i ds.length with hi | hi
  · obtain ⟨x, hx, hxm⟩ := getD_of (l := ds) hi
    rw [getD_ok hx]
    exact ⟨dens_bd (h x hxm), rng_bd (h x hxm)⟩
  · rw [List.getD_eq_getElem?_getD, List.getElem?_eq_none hi]
    decide
theorem gpL_bd {ds : List PlankD} (h : ∀ x ∈ ds, plankR x) (a b : Nat) : 0 ≤ gpL ds a b ∧ gpL ds a b ≤ 200000000000 := by
  have p := den_bd h a
  have q := den_bd h b
  unfold gpL gapL distL
  split <;> split <;> omega
/-- the gap of two planks of a list -/
theorem gap_at {ds : List PlankD} {n a b : Nat} (hv : planksB ds = true) (hz : plankZ ds) (hn : ds.length = n) (ha : a < n) (hb : b < n) :
    ∃ (x y : PlankD) (g : Int), ds[a]? = some x ∧ ds[b]? = some y ∧ g = gpL ds a b ∧ ∀ w, Calls Try.prog 9 #[plankV x.s0 x.a1 x.a2 x.a3 x.a4 x.a5, plankV y.s0 y.a1 y.a2 y.a3 y.a4 y.a5] w fun e w' => e = .returned (.tuple #[.int .i64 g, .int .i64 0]) ∧ Below w.heap.size w w' := by
  obtain ⟨x, hx, hxm⟩ := getD_of (l := ds) (i := a) (by omega)
  obtain ⟨y, hy, hym⟩ := getD_of (l := ds) (i := b) (by omega)
  refine ⟨x, y, gpL ds a b, hx, hy, rfl, fun w => ?_⟩
  have := PairGap_s x y w (planksB_p hv hxm) (planksB_p hv hym) (hz _ hxm) (hz _ hym)
  rwa [show gapL x y = gpL ds a b by rw [gpL, getD_ok hx, getD_ok hy]] at this
set_option maxRecDepth 100000 in
set_option maxHeartbeats 80000000 in
theorem FnPairs_walk (v0 v1 : Value) (w : World) (i0 : IsU8S w v0) (i1 : IsU8S w v1) :
    Calls Try.prog 3 #[v0, v1] w fun e w' => e = .returned (.bool true) ∧ Below w.heap.size w w' := by
  obtain ⟨A0, n0, c0, bs0, rfl, m0, R0, hb0⟩ := i0
  obtain ⟨A1, n1, c1, bs1, rfl, m1, R1, hb1⟩ := i1
  have M0 := Lib.hid m0
  have M1 := Lib.hid m1
  have H0 := Lib.hid R0
  have HB0 := Lib.hid hb0
  clear R0 R1 hb0 hb1 m0 m1
  rcases Nat.lt_or_ge 1048576 n0 with nn0 | nn0
  · go_enter Try.func3, Try.ntmps3
    go_wp2_with ((go_at_call 5; refine (r8Long_any _ _ _ _ _ _ _ M0.out M1.out).mono ?_; rintro e w' ⟨rfl, rfl⟩))
    go_ret
    exact ⟨rfl, Below.refl _ _⟩
  rcases Nat.lt_or_ge 1048576 n1 with nn1 | nn1
  · go_enter Try.func3, Try.ntmps3
    go_wp2_with ((go_at_call 5; refine (r8Long_any _ _ _ _ _ _ _ M0.out M1.out).mono ?_; rintro e w' ⟨rfl, rfl⟩))
    go_ret
    exact ⟨rfl, Below.refl _ _⟩
  go_enter Try.func3, Try.ntmps3
  go_wp2_with ((go_at_call 5; refine (r8Long_any _ _ _ _ _ _ _ M0.out M1.out).mono ?_; rintro e w' ⟨rfl, rfl⟩))
  refine (R8Planks_any A0 c0 n0 bs0 w H0.out HB0.out nn0).mono ?_
  rintro r w1 ⟨v, ds, rfl, ho, hd, n6, hb⟩
  obtain ⟨LA, lc, rfl⟩ := own_valP ho
  have HV := Lib.hid (hd.ok n6)
  have HZ := Lib.hid hd.z
  obtain ⟨n, hn⟩ : ∃ n, n = ds.length := ⟨_, rfl⟩
  rw [← hn] at ho n6 ⊢
  have HN := Lib.hid hn.symm
  have RL1 := Lib.hid (Rd.own ho)
  have b1 := Lib.hid hb
  clear ho hd hb hn
  have CP := PairAll_i LA lc n ds 20000 w1 HN.out RL1.out HZ.out (by omega)
  have CV := Lib.hid (fun w2 (hb : Below w1.heap.size w1 w2) => ValidPlanks_i LA lc n ds w2 HN.out (RL1.out.next hb) HZ.out (by omega))
  rw [HV.out] at CV
  rcases Nat.mod_two_eq_zero_or_one n with hm | hm
  case inr =>
    have HL : Hid (PairAll_L ds 20000 = ([], 0, 6)) := Lib.hid (pairAll_c (by rw [codeP, if_neg (by rw [HV.out]; decide), if_neg (by decide), HN.out, if_pos hm]) (by decide))
    have hr : ((n : Int) % 2 == 1) = true := by simp; omega
    clear hm
    go_wp2_with fail
    refine CP.mono ?_
    rintro r w2 ⟨v, rfl, ho, hb2⟩
    rw [HL.out]
    simp only
    have b2 := Lib.hid (below_more b1.out hb2 (Nat.le_refl _))
    have C2 := CV.out w2 hb2
    clear CP ho hb2 CV
    go_wp2_with fail
    refine C2.mono ?_
    rintro r w3 ⟨rfl, hb3⟩
    go_wp2
    go_ret
    exact ⟨rfl, below_more b2.out hb3 (Nat.le_refl _)⟩
  obtain ⟨s, hs, s1, s2, s3, s4, s5, s6⟩ := law_p ds n HN.out n6 hm
  have HL : Hid (PairAll_L ds 20000 = (rowsP s.best, s.least, 0)) := Lib.hid (by
    rw [PairAll_L, if_pos (by rw [codeP, if_neg (by rw [HV.out]; decide), if_neg (by decide), HN.out, if_neg (by omega)]), hs])
  have hr : ((n : Int) % 2 == 1) = false := by rw [Bool.eq_false_iff]; simp; omega
  have HM := Lib.hid hm
  clear hm hs
  obtain ⟨left, bs, least, solved⟩ := s
  simp only at s1 s2 s3 s4 s5 s6 HL
  rw [HL.out] at CP
  have G := Lib.hid (gpL_bd (ds := ds) (planksB_t HV.out).2)
  have lb : 0 ≤ least ∧ least ≤ 200000000000 * bs.length := by rw [s2]; exact gS_bd G.out bs
  obtain ⟨q, hq⟩ : ∃ q, q = bs.length := ⟨_, rfl⟩
  rw [← hq] at s1 lb
  have q3 : q ≤ 3 := by omega
  have HQ := Lib.hid hq
  have S1 := Lib.hid s1
  have S2 := Lib.hid s2
  have S4 := Lib.hid s4
  have S5 := Lib.hid s5
  have S6 := Lib.hid s6
  obtain ⟨uu, hu⟩ := s3
  have RU := Lib.hid hu
  clear hq s2 s4 s5 s6 hu
  go_wp2_with fail
  refine CP.mono ?_
  rintro r w2 ⟨v, rfl, ho, hb2⟩
  obtain ⟨PA, pc, rfl⟩ := own2_val ho
  simp only at ho ⊢
  rw [rowsP_len, ← HQ.out] at ho ⊢
  have b2 := Lib.hid (below_more b1.out hb2 (Nat.le_refl _))
  have RL2 := Lib.hid (RL1.out.next hb2)
  have RP2 := Lib.hid (ho.reads.all (Nat.le_refl _))
  have C2 := CV.out w2 hb2
  have e2 : ((2 : Int) * q != n) = false := by rw [show (2 : Int) * q = n by omega]; simp
  clear CP ho hb2 CV RL1 b1
  obtain ⟨cs, hcs, hcz, hmk⟩ := make_run (P := Try.prog) Try.underlying30 infoB n (by omega) (by unfold maxLen; omega)
  have HCS := Lib.hid (bvs_rep hcs hcz)
  clear hcs hcz
  go_wp2_with fail
  refine C2.mono ?_
  rintro r w3 ⟨rfl, hb3⟩
  have b3 := Lib.hid (below_more b2.out hb3 (Nat.le_refl _))
  have RL3 := Lib.hid (RL2.out.next hb3)
  have RP3 := Lib.hid (RP2.out.next hb3)
  clear C2 hb3 b2 RL2 RP2 e2
  have KU := Blk.new w3 4 cs
  have BA := (Below.refl w3.heap.size w3).alloc (Nat.le_refl _) (.cells cs 4)
  rw [HCS.out] at KU BA
  have BA := Lib.hid BA
  obtain ⟨gu, hg⟩ : ∃ gu, gu = w3.heap.size := ⟨_, rfl⟩
  rw [← hg] at KU
  have KU := Lib.hid KU
  have HG := Lib.hid hg
  go_upto_region 11 with fail
  rw [← hg]
  rw [HCS.out]
  clear hg hmk HCS
  generalize w3.alloc (.cells (bvs (List.replicate n false)) 4) = w4 at KU BA ⊢
  have RU0 : Hid (runP (List.replicate n false) (bs.take 0) = some (List.replicate n false)) := Lib.hid rfl
  go_wp2_with fail
  go_loopw [11, 9] (fun iv sv wr => ∃ (k : Nat) (x : Int) (us : List Bool), k ≤ q ∧ iv = .int .i64 k ∧ sv = .int .i64 x ∧ Hid (x = gS (gpL ds) (bs.take k)) ∧ Hid (runP (List.replicate n false) (bs.take k) = some us) ∧ Hid (Blk wr gu 4 (bvs us)) ∧ Hid (Below w3.heap.size w3 wr)) (fun iv _ _ => q - (intOf iv).toNat)
  case atStart => exact ⟨0, 0, List.replicate n false, by omega, rfl, rfl, Lib.hid rfl, RU0, KU, BA⟩
  case round =>
    obtain ⟨k, x, us, hk, rfl, rfl, X, R, K, hb⟩ := hrel
    have xb : 0 ≤ x ∧ x ≤ 600000000000 := by
      have h := gS_bd G.out (bs.take k)
      rw [← X.out, List.length_take, ← HQ.out] at h
      omega
    by_cases hlt : k < q
    · obtain ⟨⟨a, b⟩, hp, _⟩ := getD_of (l := bs) (i := k) (by rw [← HQ.out]; exact hlt)
      obtain ⟨us', r1, r2, r3, r4, r5, r6⟩ := runP_at RU.out hp
      simp only at r2 r3 r4 r5 r6
      rw [R.out] at r1
      injection r1 with r1
      subst r1
      have ul : us.length = n := by have := runP_len R.out; simpa using this
      rw [ul] at r3
      have HP := Lib.hid hp
      have R6 := Lib.hid r6
      have UA := Lib.hid r4
      have UB := Lib.hid r5
      have u1 : wr.cell? ⟨gu, a, none⟩ = some (.bool false) := by rw [K.out.cell a]; exact bvs_get r4
      have u2 : wr.cell? ⟨gu, b, none⟩ = some (.bool false) := by rw [K.out.cell b]; exact bvs_get r5
      have fu := K.out.frozen a
      obtain ⟨bp, op, rfl, hbp, hcp⟩ := RP3.out.at_ (by omega)
      obtain ⟨Ai, ci, c00, hRi, hcap⟩ := hcp k _ (rowsP_get hp)
      obtain ⟨bi, oi, rfl, hbi, hci⟩ := hRi.1.ints (by simp)
      have CR : Hid (∀ wz, Below w3.heap.size w3 wz → wz.cell? ⟨bp, op + k, none⟩ = some (.slice (some ⟨bi, oi, none⟩) 2 ci) ∧ wz.cell? ⟨bi, oi, none⟩ = some (.int .i64 (a : Int)) ∧ wz.cell? ⟨bi, oi + 1, none⟩ = some (.int .i64 (b : Int))) := Lib.hid fun wz hz =>
        ⟨(hz.cell (p := ⟨bp, op + k, none⟩) hbp).trans c00, (hz.cell (p := ⟨bi, oi, none⟩) hbi).trans (hci 0 _ rfl), (hz.cell (p := ⟨bi, oi + 1, none⟩) hbi).trans (hci 1 _ rfl)⟩
      obtain ⟨c0, ca, cb⟩ := CR.out wr hb.out
      change 2 ≤ ci at hcap
      clear c00
      have ga : decide ((a : Int) < 0) = false := decide_eq_false (by omega)
      have gb : decide ((b : Int) ≤ a) = false := decide_eq_false (by omega)
      have gb' : decide (b ≤ a) = false := decide_eq_false (by omega)
      have gn : decide ((n : Int) ≤ b) = false := decide_eq_false (by omega)
      have gn' : decide (n ≤ b) = false := decide_eq_false (by omega)
      have ta0 : (0 : Int) ≤ a := by omega
      have ta1 : (a : Int) < n := by omega
      have ta2 : (a : Int).toNat = a := by simp
      have tb0 : (0 : Int) ≤ b := by omega
      have tb1 : (b : Int) < n := by omega
      have tb2 : (b : Int).toNat = b := by simp
      have tk0 : (0 : Int) ≤ k := by omega
      have tk1 : (k : Int) < q := by omega
      have tk2 : (k : Int).toNat = k := by simp
      clear hp r4 r5 r6 hcp hRi hci
      go_upto_region 14 with fail
      (refine wp_region_quiet_lit (by kernel_rfl) (by kernel_rfl) ?_; (repeat (go_big_quiet_step ((fail)))); refine wpQuiet_nil ?_; intro _ hw'; obtain ⟨nq, hw''⟩ := hw'; subst hw'')
      go_upto_region 17 with fail
      have B5 := Lib.hid ((below_drewN hb.out nq).setCell (p := ⟨gu, a, none⟩) (by rw [HG.out]; exact Nat.le_refl _) (.bool true))
      have K5 := (K.out.drewN nq).set_ a (.bool true)
      rw [bvs_set] at K5
      have K5 := Lib.hid K5
      clear u1 u2 fu c0 ca cb K hb
      generalize (wr.drewN nq).setCell ⟨gu, a, none⟩ (.bool true) = w5 at B5 K5 ⊢
      obtain ⟨c0, ca, cb⟩ := CR.out w5 B5.out
      have fu := K5.out.frozen b
      have u2 : w5.cell? ⟨gu, b, none⟩ = some (.bool false) := by rw [K5.out.cell b]; exact bvs_get (by rw [List.getElem?_set_ne (by omega)]; exact UB.out)
      go_upto_region 18 with fail
      have B6 := Lib.hid (B5.out.setCell (p := ⟨gu, b, none⟩) (by rw [HG.out]; exact Nat.le_refl _) (.bool true))
      have K6 := K5.out.set_ b (.bool true)
      rw [bvs_set] at K6
      have K6 := Lib.hid K6
      clear u2 fu c0 ca cb K5 B5
      generalize w5.setCell ⟨gu, b, none⟩ (.bool true) = w6 at B6 K6 ⊢
      obtain ⟨c0, ca, cb⟩ := CR.out w6 B6.out
      have sz6 := B6.out.size
      have c0 := bel_at (B := w6.heap.size) c0 (by omega)
      have ca := bel_at (B := w6.heap.size) ca (by omega)
      have cb := bel_at (B := w6.heap.size) cb (by omega)
      obtain ⟨bl, ol, rfl, _, _⟩ := RL3.out.2 (by omega)
      obtain ⟨x1, hx, hxm⟩ := getD_of (l := ds) (i := a) (by rw [HN.out]; omega)
      obtain ⟨y1, hy, hym⟩ := getD_of (l := ds) (i := b) (by rw [HN.out]; omega)
      obtain ⟨gv, hgv⟩ : ∃ v, v = gpL ds a b := ⟨_, rfl⟩
      have gvb := G.out a b
      rw [← hgv] at gvb
      have CG := Lib.hid (fun w => PairGap_s x1 y1 w (planksB_p HV.out hxm) (planksB_p HV.out hym) (HZ.out _ hxm) (HZ.out _ hym))
      rw [show gapL x1 y1 = gv by rw [hgv, gpL, getD_ok hx, getD_ok hy]] at CG
      obtain ⟨cx0, cx1, cx2, cx3, cx4, cx5⟩ := plk_bel (RL3.out.next B6.out) hx (by omega)
      obtain ⟨cy0, cy1, cy2, cy3, cy4, cy5⟩ := plk_bel (RL3.out.next B6.out) hy (by omega)
      have X2 : Hid (x + gv = gS (gpL ds) (bs.take (k + 1))) := Lib.hid (by rw [gS_take HP.out, ← X.out, hgv])
      clear hx hxm hy hym hgv
      (refine wp_region_bel w6.heap.size w6 (Below.refl _ _) (by kernel_rfl) (by kernel_rfl) ?_; (repeat (go_big_quiet_step ((first | (go_at_call 9; exact bel_of (Nat.le_refl _) (CG.out _)))))); refine wpQuiet_nil ?_; rintro w7 ⟨⟨_, hb7⟩, rfl⟩)
      have B7 := Lib.hid (below_more' B6.out (hb7.mono (Nat.le_refl _)))
      have K7 := Lib.hid (K6.out.below hb7 K6.out.lt)
      clear c0 ca cb cx0 cx1 cx2 cx3 cx4 cx5 cy0 cy1 cy2 cy3 cy4 cy5 hb7 K6 B6 CG CR
      go_wp2_with fail
      go_roundw
      case rel => exact ⟨k + 1, x + gv, (us.set a true).set b true, by omega, by go_num, rfl, X2, R6, K7, B7⟩
      case measure => simp [intOf]; omega
    · have hkq : k = q := by omega
      subst hkq
      have hx : x = least := by rw [X.out, HQ.out, List.take_length, S2.out]
      subst hx
      have W3 := Lib.hid hb.out
      have B0 := Lib.hid b3.out
      obtain ⟨h, hh⟩ : ∃ h, h = n / 2 := ⟨_, rfl⟩
      rw [← hh] at S4 S5 S6
      have hm := HM.out
      have n2 : n = 2 * h := by omega
      have NH := Lib.hid n2
      have HH := Lib.hid hh
      have qn : (n : Int).tdiv 2 = h := by rw [Int.tdiv_eq_ediv_of_nonneg (by omega)]; omega
      clear RU HM HL hr KU BA RU0 RP3 R K X xb S1 S2 hlt hm n2 hh hk HG HQ
      go_wp2_with fail
      go_loopw [18, 15, 16, 17] (fun iv nv fv sv wr => ∃ (j i : Nat) (x' y z : Int), j ≤ h ∧ Hid (i = 2 * j) ∧ i ≤ n ∧ iv = .int .i64 i ∧ nv = .int .i64 x' ∧ fv = .int .i64 y ∧ sv = .int .i64 z ∧ Hid (x' = nearL (gpL ds) j) ∧ Hid (y = farL (gpL ds) n j) ∧ Hid (z = shiftL (gpL ds) n j) ∧ Hid (Below w3.heap.size w3 wr)) (fun iv _ _ _ _ => n - (intOf iv).toNat)
      case atStart => exact ⟨0, 0, 0, 0, 0, by omega, Lib.hid rfl, by omega, rfl, rfl, rfl, rfl, Lib.hid rfl, Lib.hid rfl, Lib.hid rfl, W3⟩
      case round =>
        obtain ⟨j, i, s1, s2, s3, hj, HI, hi, rfl, rfl, rfl, rfl, X1, X2, X3, hb⟩ := hrel
        have e1 := sumTo_bd (fun t => G.out (2 * t) (2 * t + 1)) j
        have e2 := sumTo_bd (fun t => G.out t (n - 1 - t)) j
        have e3 := sumTo_bd (fun t => G.out t (t + n / 2)) j
        have h3 : h ≤ 3 := by have := NH.out; omega
        have b1 : 0 ≤ s1 ∧ s1 ≤ 600000000000 := by rw [X1.out, nearL]; omega
        have b2 : 0 ≤ s2 ∧ s2 ≤ 600000000000 := by rw [X2.out, farL]; omega
        have b3 : 0 ≤ s3 ∧ s3 ≤ 600000000000 := by rw [X3.out, shiftL]; omega
        clear e1 e2 e3 h3
        by_cases hlt : i < n
        · have hi2 := HI.out
          have hn2 := NH.out
          have hjh : j < h := by omega
          have qi : (i : Int).tdiv 2 = j := by rw [Int.tdiv_eq_ediv_of_nonneg (by omega)]; omega
          obtain ⟨i1, q1⟩ : ∃ i1, i1 = i + 1 := ⟨_, rfl⟩
          obtain ⟨m, q2⟩ : ∃ m, m = n - 1 - j := ⟨_, rfl⟩
          obtain ⟨p, q3⟩ : ∃ p, p = j + h := ⟨_, rfl⟩
          have v1 : (i : Int) + 1 = i1 := by omega
          have v2 : (n : Int) - 1 - j = m := by omega
          have v3 : (j : Int) + h = p := by omega
          obtain ⟨x1, y1, g1, hx1, hy1, hg1, C1⟩ := gap_at HV.out HZ.out HN.out (a := i) (b := i1) hlt (by omega)
          obtain ⟨x2, y2, g2, hx2, hy2, hg2, C2⟩ := gap_at HV.out HZ.out HN.out (a := j) (b := m) (by omega) (by omega)
          obtain ⟨x3, y3, g3, hx3, hy3, hg3, C3⟩ := gap_at HV.out HZ.out HN.out (a := j) (b := p) (by omega) (by omega)
          have gb1 := G.out i i1
          have gb2 := G.out j m
          have gb3 := G.out j p
          rw [← hg1] at gb1
          rw [← hg2] at gb2
          rw [← hg3] at gb3
          have Y1 : Hid (s1 + g1 = nearL (gpL ds) (j + 1)) := Lib.hid (by rw [nearL, sumTo, X1.out, nearL, hg1, q1, hi2])
          have Y2 : Hid (s2 + g2 = farL (gpL ds) n (j + 1)) := Lib.hid (by rw [farL, sumTo, X2.out, farL, hg2, q2])
          have Y3 : Hid (s3 + g3 = shiftL (gpL ds) n (j + 1)) := Lib.hid (by rw [shiftL, sumTo, X3.out, shiftL, hg3, q3, HH.out])
          have HX2 := Lib.hid hx2
          have HX3 := Lib.hid hx3
          have HY2 := Lib.hid hy2
          have HY3 := Lib.hid hy3
          have D1 := Lib.hid C1
          have D2 := Lib.hid C2
          have D3 := Lib.hid C3
          have i1n : i1 < n := by omega
          have mn : m < n := by omega
          have pn : p < n := by omega
          have jn : j < n := by omega
          obtain ⟨bl, ol, rfl, _, _⟩ := RL3.out.2 (by omega)
          obtain ⟨cx0, cx1, cx2, cx3, cx4, cx5⟩ := plk_bel (RL3.out.next hb.out) hx1 hlt
          obtain ⟨cy0, cy1, cy2, cy3, cy4, cy5⟩ := plk_bel (RL3.out.next hb.out) hy1 i1n
          have ti0 : (0 : Int) ≤ i := by omega
          have ti1 : (i : Int) < n := by omega
          have ti2 : (i : Int).toNat = i := by simp
          have tj0 : (0 : Int) ≤ j := by omega
          have tj1 : (j : Int) < n := by omega
          have tj2 : (j : Int).toNat = j := by simp
          have ta0 : (0 : Int) ≤ i1 := by omega
          have ta1 : (i1 : Int) < n := by omega
          have ta2 : (i1 : Int).toNat = i1 := by simp
          have tm0 : (0 : Int) ≤ m := by omega
          have tm1 : (m : Int) < n := by omega
          have tm2 : (m : Int).toNat = m := by simp
          have tp0 : (0 : Int) ≤ p := by omega
          have tp1 : (p : Int) < n := by omega
          have tp2 : (p : Int).toNat = p := by simp
          have I2 := Lib.hid (show i + 2 = 2 * (j + 1) by omega)
          have in2 : i + 2 ≤ n := by omega
          clear hx1 hy1 hx2 hy2 hx3 hy3 hg1 hg2 hg3 C1 C2 C3 q1 q2 q3 hi2 hn2
          go_upto_region 29 with fail
          (refine wp_region_bel wr.heap.size wr (Below.refl _ _) (by kernel_rfl) (by kernel_rfl) ?_; (repeat (go_big_quiet_step ((first | (go_at_call 9; exact bel_of (Nat.le_refl _) (D1.out _)))))); refine wpQuiet_nil ?_; rintro w7 ⟨⟨_, hb7⟩, rfl⟩)
          have B7 := Lib.hid (below_more' hb.out (hb7.mono (Nat.le_refl _)))
          clear cx0 cx1 cx2 cx3 cx4 cx5 cy0 cy1 cy2 cy3 cy4 cy5 hb hb7 D1
          obtain ⟨cx0, cx1, cx2, cx3, cx4, cx5⟩ := plk_bel (RL3.out.next B7.out) HX2.out jn
          obtain ⟨cy0, cy1, cy2, cy3, cy4, cy5⟩ := plk_bel (RL3.out.next B7.out) HY2.out mn
          go_upto_region 30 with fail
          (refine wp_region_bel w7.heap.size w7 (Below.refl _ _) (by kernel_rfl) (by kernel_rfl) ?_; (repeat (go_big_quiet_step ((first | (go_at_call 9; exact bel_of (Nat.le_refl _) (D2.out _)))))); refine wpQuiet_nil ?_; rintro w8 ⟨⟨_, hb8⟩, rfl⟩)
          have B8 := Lib.hid (below_more' B7.out (hb8.mono (Nat.le_refl _)))
          clear cx0 cx1 cx2 cx3 cx4 cx5 cy0 cy1 cy2 cy3 cy4 cy5 B7 hb8 D2
          obtain ⟨cx0, cx1, cx2, cx3, cx4, cx5⟩ := plk_bel (RL3.out.next B8.out) HX3.out jn
          obtain ⟨cy0, cy1, cy2, cy3, cy4, cy5⟩ := plk_bel (RL3.out.next B8.out) HY3.out pn
          go_upto_region 31 with fail
          (refine wp_region_bel w8.heap.size w8 (Below.refl _ _) (by kernel_rfl) (by kernel_rfl) ?_; (repeat (go_big_quiet_step ((first | (go_at_call 9; exact bel_of (Nat.le_refl _) (D3.out _)))))); refine wpQuiet_nil ?_; rintro w9 ⟨⟨_, hb9⟩, rfl⟩)
          have B9 := Lib.hid (below_more' B8.out (hb9.mono (Nat.le_refl _)))
          clear cx0 cx1 cx2 cx3 cx4 cx5 cy0 cy1 cy2 cy3 cy4 cy5 B8 hb9 D3
          clear v1 v2 v3 ti0 ti1 ti2 tj0 tj1 tj2 ta0 ta1 ta2 tm0 tm1 tm2 tp0 tp1 tp2 jn mn pn i1n HX2 HX3 HY2 HY3
          go_wp2_with fail
          go_roundw
          case rel => exact ⟨j + 1, i + 2, s1 + g1, s2 + g2, s3 + g3, by omega, I2, in2, by go_num, rfl, rfl, rfl, Y1, Y2, Y3, B9⟩
          case measure => simp [intOf]; omega
        · have hi2 := HI.out
          have hn2 := NH.out
          have hjh : j = h := by omega
          have hin : i = n := by omega
          have l1 := S4.out
          have l2 := S5.out
          have l3 := S6.out
          rw [← hjh, ← X1.out] at l1
          rw [← hjh, ← X2.out] at l2
          rw [← hjh, ← X3.out] at l3
          have d1 : decide (x ≤ s1) = true := decide_eq_true l1
          have d2 : decide (x ≤ s2) = true := decide_eq_true l2
          have d3 : decide (x ≤ s3) = true := decide_eq_true l3
          clear l1 l2 l3 hi2 hn2 hjh
          subst hin
          go_wp2_with fail
          go_ret
          exact ⟨rfl, below_more B0.out hb.out (Nat.le_refl _)⟩
end Go.Proofs.Ytoodlpgamlelaaa
