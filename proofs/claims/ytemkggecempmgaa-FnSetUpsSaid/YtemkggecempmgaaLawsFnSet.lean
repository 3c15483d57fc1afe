/- The law FnSetUps. -/
import Derived.Test.YtemkggecempmgaaSetEnd
import Derived.Test.YtemkggecempmgaaBytes
import Derived.Test.YtemkggecempmgaaLong
import Derived.Test.YtemkggecempmgaaOpenI
import Derived.StillTailTactics
import Derived.Deep.DeepCutAuto
set_option linter.unusedVariables false
set_option linter.unusedSimpArgs false
namespace Go.Proofs.Ytemkggecempmgaa
open Go.RowKit

theorem own_valK {w : World} {L n k : Nat} {t : TypeId} {v : Value} {xs : List Value} (h : w.ownsRow L t k v n xs) : ∃ A c, v = .slice A n c := by
  rcases h.2 with ⟨rfl, rfl⟩ | ⟨g, cap, cur, rfl, _⟩
  · exact ⟨none, 0, rfl⟩
  · exact ⟨_, _, rfl⟩
theorem mul_lo {a b A B : Int} (A0 : 0 ≤ A) (hA : A ≤ a) (B0 : 0 ≤ B) (hB : B ≤ b) : A * B ≤ a * b := Int.mul_le_mul hA hB B0 (by omega)
theorem tnl_pos {x : CordD} (h : cordDr x) : 1 ≤ tnl x := by
  obtain ⟨h0, h1, h2, h3⟩ := h
  have a := mul_lo (a := 4 * x.a0) (b := x.a0) (A := 7840) (B := 1960) (by omega) (by omega) (by omega) (by omega)
  have b := mul_lo (a := 4 * x.a0 * x.a0) (b := x.a1) (A := 7840 * 1960) (B := 320) (by omega) a (by omega) (by omega)
  have c := mul_lo (a := 4 * x.a0 * x.a0 * x.a1) (b := x.a1) (A := 7840 * 1960 * 320) (B := 320) (by omega) b (by omega) (by omega)
  have d := mul_lo (a := 4 * x.a0 * x.a0 * x.a1 * x.a1) (b := x.a2) (A := 7840 * 1960 * 320 * 320) (B := 300) (by omega) c (by omega) (by omega)
  generalize hx : 4 * x.a0 * x.a0 * x.a1 * x.a1 * x.a2 = y at d
  unfold tnl tenL divL
  rw [hx, if_neg (by omega)]
  omega
theorem tot_pos {ds : List CordD} (h : DrS ds) : ∀ k, k ≤ ds.length → 0 ≤ totTo ds k ∧ (0 < k → 1 ≤ totTo ds k)
  | 0, _ => by simp [totTo]
  | k + 1, hk => by
    have ih := tot_pos h k (by omega)
    have q := tnl_pos (h ds[k] (List.getElem_mem _))
    rw [totTo, getD_ok (List.getElem?_eq_getElem (show k < ds.length by omega))]
    omega
theorem br_dec {ds : List CordD} {share : Int} {n k : Nat} (hk : k < n) : decide ((k : Int) ∈ brTo ds share n) = !(hol (ds.getD k c0D) share) := by
  cases h : hol (ds.getD k c0D) share
  · exact decide_eq_true (br_mem.2 ⟨k, hk, rfl, h⟩)
  · refine decide_eq_false fun hm => ?_
    obtain ⟨i, h1, h2, h3⟩ := br_mem.1 hm
    obtain rfl : k = i := by omega
    rw [h] at h3; cases h3
theorem set_ts {ds : List CordD} {zs : List Int} {n : Nat} (hn : ds.length = n) (hz : zs.length = n) (hv : cordsB (setG ds zs) = true) {i : Nat} (hi : i < n) :
    ∃ y, (setG ds zs)[i]? = some y ∧ cordB y.a0 y.a1 y.a2 y.a3 = true ∧ (tsF ds 0 zs).getD i 0 = tenL y.a0 y.a1 y.a2 := by
  obtain ⟨z, h1, h2⟩ := set_at (zs := zs) hn hz hi
  have hl : i < (setG ds zs).length := by rw [setG_len (by omega)]; omega
  have hy := List.getElem?_eq_getElem hl
  rw [getD_ok hy] at h2
  refine ⟨_, hy, ?_, ?_⟩
  · unfold cordsB at hv
    rw [Bool.and_eq_true] at hv
    have h3 := cordsTo_at hv.1 hl
    rw [getD_ok hy] at h3
    exact h3
  · have h4 := tsF_get (ds := ds) (k := 0) h1
    rw [getD_ok h4, h2, Nat.zero_add]
    rfl
/-- the ways that a search ends, by one bool -/
theorem ways_b {ds : List CordD} {gs : List (List Int)} {most share : Int} {n : Nat} {own : List Int} {spread a many : Int} (h : LawS ds gs most share n own spread a many) :
    ∃ b : Bool, (a == 0) = b ∧ (a != 0) = !b ∧ (a == 3) = !b ∧ decide (0 < many) = b ∧ decide (many < 1) = !b ∧ (b = false → own = [] ∧ 0 < n) ∧ (b = true → own.length = n ∧ MemG gs own ∧ brTo (setG ds own) share n = [] ∧ totTo (setG ds own) n ≤ most ∧ spread = sprTo (tsF ds 0 own) n) := by
  rcases h.ways with ⟨h1, h2, h3, h4⟩ | ⟨h1, h2, h3⟩
  · exact ⟨false, by rw [h1]; rfl, by rw [h1]; rfl, by rw [h1]; rfl, by rw [h2]; rfl, by rw [h2]; rfl, fun _ => ⟨h3, h4⟩, (fun e => by cases e)⟩
  · exact ⟨true, by rw [h1]; rfl, by rw [h1]; rfl, by rw [h1]; rfl, decide_eq_true (by omega), decide_eq_false (by omega), (fun e => by cases e), fun _ => h3⟩
theorem setG_take {ds : List CordD} {zs : List Int} {n k : Nat} (hn : ds.length = n) (hk : k ≤ n) (hz : zs.length = n) : (setG ds (zs.take k)).length = k := by
  rw [setG_len (by simp; omega)]; simp; omega
theorem take_nextZ {l : List Int} {k : Nat} {z : Int} (h : l[k]? = some z) : l.take (k + 1) = l.take k ++ [z] := by
  obtain ⟨h1, h2⟩ := List.getElem?_eq_some_iff.1 h
  rw [List.take_succ_eq_append_getElem h1, h2]
set_option maxRecDepth 100000 in
set_option maxHeartbeats 80000000 in
theorem FnSetUps_walk (v0 v1 : Value) (w : World) (i0 : IsU8S w v0) (i1 : IsU8S w v1) :
    Calls Try.prog 3 #[v0, v1] w fun e w' => e = .returned (.bool true) ∧ Below w.heap.size w w' := by
  obtain ⟨A0, n0, c0, bs0, rfl, m0, R0, hb0⟩ := i0
  obtain ⟨A1, n1, c1, bs1, rfl, m1, R1, hb1⟩ := i1
  have M0 := Lib.hid m0
  have M1 := Lib.hid m1
  have H0 := Lib.hid R0
  have H1 := Lib.hid R1
  have HB0 := Lib.hid hb0
  have HB1 := Lib.hid hb1
  clear R0 R1 hb0 hb1 m0 m1
  rcases Nat.lt_or_ge 1048576 n0 with nn0 | nn0
  · go_enter Try.func3, Try.ntmps3
    go_wp2_with ((go_at_call 8; refine (r8Long_any _ _ _ _ _ _ _ M0.out M1.out).mono ?_; rintro e w' ⟨rfl, rfl⟩))
    go_ret
    exact ⟨rfl, Below.refl _ _⟩
  rcases Nat.lt_or_ge 1048576 n1 with nn1 | nn1
  · go_enter Try.func3, Try.ntmps3
    go_wp2_with ((go_at_call 8; refine (r8Long_any _ _ _ _ _ _ _ M0.out M1.out).mono ?_; rintro e w' ⟨rfl, rfl⟩))
    go_ret
    exact ⟨rfl, Below.refl _ _⟩
  go_enter Try.func3, Try.ntmps3
  go_wp2_with ((go_at_call 8; refine (r8Long_any _ _ _ _ _ _ _ M0.out M1.out).mono ?_; rintro e w' ⟨rfl, rfl⟩))
  refine (R8Strings_any A0 c0 n0 bs0 w H0.out HB0.out nn0).mono ?_
  rintro r w1 ⟨v, ds, rfl, ho, hd, n4, hb⟩
  obtain ⟨LA, lc, rfl⟩ := own_valK ho
  obtain ⟨n, hn⟩ : ∃ n, n = ds.length := ⟨_, rfl⟩
  rw [← hn] at ho n4 ⊢
  have HN := Lib.hid hn.symm
  have D := Lib.hid hd
  have RL1 := Lib.hid (Rd.own ho)
  have b1 := Lib.hid hb
  clear ho hd hb hn
  have C2 := R8Gauges_any A1 c1 n1 n bs1 w1 (H1.out.next b1.out) HB1.out nn1 n4
  go_wp2_with fail
  refine C2.mono ?_
  rintro r w2 ⟨v, gs, rfl, ho, hg, hgn, hb2⟩
  obtain ⟨GA, gc, rfl⟩ := own2_val ho
  rw [hgn] at ho ⊢
  have G := Lib.hid hg
  have HGN := Lib.hid hgn
  have RL2 := Lib.hid (RL1.out.next hb2)
  have RG2 := Lib.hid (ho.reads.all (Nat.le_refl _))
  have b2 := Lib.hid (below_more b1.out hb2 (Nat.le_refl _))
  have H2 := Lib.hid ((H1.out.next b1.out).next hb2)
  clear ho hg hgn hb2 C2 RL1 b1
  have CW := r8Wide_any A1 c1 n1 w2.heap.size bs1 60 300 w2 H2.out HB1.out nn1 (by omega) (by omega) (by omega) (by omega)
  have wb := rWide_bd bs1 60 (m := 300) (by omega)
  have CA := r8At_any A1 c1 n1 w2.heap.size bs1 62 7 w2 H2.out HB1.out nn1 (by omega) (by omega) (by omega) (by omega)
  have ab := rAt_bd bs1 62 (m := 7) (by omega)
  generalize rWide bs1 60 300 = xw at CW wb
  generalize rAt bs1 62 7 = xa at CA ab
  obtain ⟨most, hmost⟩ : ∃ x, x = 1000 * (100 + xw) := ⟨_, rfl⟩
  obtain ⟨share, hshare⟩ : ∃ x, x = 400 + 100 * xa := ⟨_, rfl⟩
  have mb : 0 ≤ most ∧ most ≤ 2000000 := by omega
  have sb : 0 ≤ share ∧ share ≤ 1000 := by omega
  have HM := Lib.hid hmost
  have HS := Lib.hid hshare
  clear hmost hshare
  go_upto_region 7 with (first | (go_at_call 11; refine (CW).mono ?_; rintro e w' ⟨rfl, rfl⟩) | (go_at_call 12; refine (CA).mono ?_; rintro e w' ⟨rfl, rfl⟩))
  rw [← HM.out, ← HS.out]
  clear CW CA wb ab HM HS
  obtain ⟨hv, hgr, own, spread, a, many, LS⟩ := law_s HN.out n4 HGN.out D.out G.out mb.1 mb.2 sb.1 sb.2
  obtain ⟨b, q1, q2, q3, q4, q5, q6, q7⟩ := ways_b LS
  have HV := Lib.hid hv
  have HGR := Lib.hid hgr
  have HBEST := Lib.hid LS.best
  have HF := Lib.hid q6
  have HT := Lib.hid q7
  have hrl : Hid (∀ r ∈ gs, r.length ≤ maxLen) := Lib.hid fun r hr => by have := (hgr r hr).1; unfold maxLen; omega
  have CS := SetUp_i LA GA lc gc n n ds gs most share 20000 w2 HN.out RL2.out RG2.out hrl.out (by omega) (by omega)
  rw [LS.num.1] at CS
  have CN := Lib.hid (fun w3 (hb : Below w2.heap.size w2 w3) => CountSetUps_i LA GA lc gc n n ds gs most share 20000 w3 HN.out (RL2.out.next hb) (RG2.out.next hb) hrl.out (by omega) (by omega))
  rw [LS.num.2] at CN
  clear hv hgr LS q6 q7
  go_wp2_with fail
  refine CS.mono ?_
  rintro r w3 ⟨v, rfl, ho, hb3⟩
  obtain ⟨OA, oc, rfl⟩ := own_val ho
  simp only at ho ⊢
  obtain ⟨on, hon⟩ : ∃ x, x = own.length := ⟨_, rfl⟩
  rw [← hon] at ho ⊢
  have HON := Lib.hid hon.symm
  have RO3 := Lib.hid (Rd.own ho)
  have b3 := Lib.hid (below_more b2.out hb3 (Nat.le_refl _))
  have C4 := CN.out w3 hb3
  have RL3 := Lib.hid (RL2.out.next hb3)
  have RG3 := Lib.hid (RG2.out.next hb3)
  have H3 := Lib.hid (H2.out.next hb3)
  clear ho hb3 CS CN b2 RL2 RG2 H2 hon
  go_wp2_with fail
  refine C4.mono ?_
  rintro r w4 ⟨rfl, hb4⟩
  simp only
  have RO4 := Lib.hid (RO3.out.next hb4)
  have b4 := Lib.hid (below_more b3.out hb4 (Nat.le_refl _))
  have RL4 := Lib.hid (RL3.out.next hb4)
  have RG4 := Lib.hid (RG3.out.next hb4)
  have H4 := Lib.hid (H3.out.next hb4)
  clear hb4 C4 b3 RL3 RG3 RO3 H3
  have C5 := TotalTension_i LA lc n ds w4 HN.out RL4.out HV.out
  have tp := tot_pos D.out n (by rw [HN.out]; exact Nat.le_refl _)
  have tb := totTo_bd (cordsB_t HV.out).2 n (by rw [HN.out]; exact Nat.le_refl _)
  obtain ⟨tt, htt⟩ : ∃ x, x = totTo ds n := ⟨_, rfl⟩
  rw [← htt] at C5 tp tb
  have HTT := Lib.hid htt
  clear htt
  go_wp2_with fail
  refine C5.mono ?_
  rintro r w5 ⟨rfl, hb5⟩
  have RO5 := Lib.hid (RO4.out.next hb5)
  have b5 := Lib.hid (below_more b4.out hb5 (Nat.le_refl _))
  have RL5 := Lib.hid (RL4.out.next hb5)
  have RG5 := Lib.hid (RG4.out.next hb5)
  have H5 := Lib.hid (H4.out.next hb5)
  clear hb5 C5 b4 RL4 RG4 RO4 H4
  have C6 := BreakingStrings_i LA lc n ds share w5 HN.out RL5.out HV.out sb.1 sb.2
  go_wp2_with fail
  refine C6.mono ?_
  rintro r w6 ⟨v, rfl, ho, hb6⟩
  obtain ⟨BA, bc, rfl⟩ := own_val ho
  have bl := brTo_len ds share n
  have RB6 := Rd.own ho
  obtain ⟨bn, hbn⟩ : ∃ x, x = (brTo ds share n).length := ⟨_, rfl⟩
  rw [← hbn] at RB6 bl ⊢
  have RB6 := Lib.hid RB6
  have RO6 := Lib.hid (RO5.out.next hb6)
  have b6 := Lib.hid (below_more b5.out hb6 (Nat.le_refl _))
  have RL6 := Lib.hid (RL5.out.next hb6)
  have RG6 := Lib.hid (RG5.out.next hb6)
  have H6 := Lib.hid (H5.out.next hb6)
  clear ho hb6 C6 b5 RL5 RG5 RO5 H5 hbn
  have tl : decide ((0 : Int) < n) = true → decide (tt < 1) = false := fun h => decide_eq_false (by have := of_decide_eq_true h; omega)
  have W6 := Lib.hid (Below.refl w6.heap.size w6)
  have HTL := Lib.hid tl
  clear tl
  have go1 : decide ((0 : Int) < n) = false ∨ (decide ((0 : Int) < n) = true ∧ decide (tt < 1) = false) := by
    by_cases h : 0 < n
    · exact .inr ⟨decide_eq_true (by omega), decide_eq_false (by omega)⟩
    · exact .inl (decide_eq_false (by omega))
  have gn1 : decide (0 < n) = decide ((0 : Int) < n) := decide_eq_decide.2 (by omega)
  go_upto_region 11 with fail
  go_cut [109] from 84 to 109 (fun c wz => c = .bool false ∧ Hid (w6 = wz))
  case first =>
    rcases go1 with go1 | ⟨go1, go2⟩ <;> cases b
    all_goals (go_wp2_with fail)
    all_goals go_meet
    all_goals (first | exact ⟨rfl, Lib.hid rfl⟩ | exact ⟨congrArg Value.bool (decide_eq_false (by omega)), Lib.hid rfl⟩)
  case rest =>
    obtain ⟨rfl, he⟩ := hcut
    obtain rfl := he.out
    clear he go1 gn1 HTL
    go_wp2_with fail
    go_loopw [19, 18] (fun i sv wr => ∃ (k : Nat) (x : Int), k ≤ n ∧ i = .int .i64 k ∧ sv = .int .i64 x ∧ (0 ≤ x ∧ x ≤ 40000000) ∧ Hid (x = totTo ds k) ∧ Hid (Below w6.heap.size w6 wr)) (fun i _ _ => n - (intOf i).toNat)
    case atStart => exact ⟨0, 0, Nat.zero_le _, rfl, rfl, by omega, Lib.hid rfl, W6⟩
    case round =>
      obtain ⟨k, x, hk, rfl, rfl, xb, HX, hb⟩ := hrel
      by_cases hlt : k < n
      · as_aux_lemma =>
          obtain ⟨y, hy, hym⟩ := getD_of (l := ds) (i := k) (by rw [HN.out]; exact hlt)
          have CB : Hid (cordB y.a0 y.a1 y.a2 y.a3 = true) := Lib.hid (by
            have h0 := HV.out
            unfold cordsB at h0
            rw [Bool.and_eq_true] at h0
            have h1 := cordsTo_at h0.1 (k := k) (by rw [HN.out]; exact hlt)
            rw [getD_ok hy] at h1
            exact h1)
          have yok := cordOk_of CB.out
          obtain ⟨bq, oq, rfl, hbB, hc⟩ := (RL6.out.next hb.out).at_ cordF_len (by omega)
          have c0 : wr.cell? ⟨bq, oq + k * 4, none⟩ = some (.int .i64 y.a0) := hc k y 0 _ hy rfl
          have c1 : wr.cell? ⟨bq, oq + k * 4 + 1, none⟩ = some (.int .i64 y.a1) := hc k y 1 _ hy rfl
          have c2 : wr.cell? ⟨bq, oq + k * 4 + 2, none⟩ = some (.int .i64 y.a2) := hc k y 2 _ hy rfl
          have c3 : wr.cell? ⟨bq, oq + k * 4 + 3, none⟩ = some (.int .i64 y.a3) := hc k y 3 _ hy rfl
          have nx := totTo_bd (cordsB_t HV.out).2 (k + 1) (by rw [HN.out]; omega)
          obtain ⟨t, ht⟩ : ∃ t, t = tenL y.a0 y.a1 y.a2 := ⟨_, rfl⟩
          have E1 : Hid (x + t = totTo ds (k + 1)) := Lib.hid (by rw [totTo, getD_ok hy, HX.out, tnl, ht])
          rw [← E1.out] at nx
          have tb := tenL_bd yok.1.1 yok.1.2 yok.2.1.1 yok.2.1.2 yok.2.2.1.1 yok.2.2.1.2
          rw [← ht] at tb
          have CT := TensionOf_ok y.a0 y.a1 y.a2 y.a3 wr CB.out
          rw [← ht] at CT
          have BD := Lib.hid (br_dec (ds := ds) (share := share) (n := n) hlt)
          rw [getD_ok hy] at BD
          obtain ⟨hh, hhh⟩ : ∃ h, h = hol y share := ⟨_, rfl⟩
          have D1 : Hid (decide (share * y.a3 < 1000 * t) = !hh) := Lib.hid (by rw [hhh, ht]; unfold hol hoB; rw [← decide_not]; exact decide_eq_decide.2 (by omega))
          have sp := mul_bd sb.1 sb.2 (show 0 ≤ y.a3 by have := yok.2.2.2; omega) (show y.a3 ≤ 1000000 by have := yok.2.2.2; omega)
          rw [← hhh] at BD
          have C3 := Lib.hid hc
          have HY := Lib.hid hy
          clear hc hy hym ht yok hhh
          go_wp2_with fail
          refine CT.mono ?_
          rintro r w7 ⟨rfl, hb7⟩
          have B7 := Lib.hid (below_more hb.out hb7 (Nat.le_refl _))
          clear CT c0 c1 c2 c3
          go_upto_region 19 with fail
          have hc := C3.out
          have d3 := bel_at (B := w7.heap.size) ((hb7.cell (p := ⟨bq, oq + k * 4 + 3, none⟩) hbB).trans (hc k y 3 _ HY.out rfl)) (by have := hb7.size; omega)
          have RH : Hid (∀ wz, Below w7.heap.size w7 wz → Calls Try.prog 18 #[.slice BA bn bc, .int .i64 (k : Int)] wz fun e w' => e = .returned (.bool (!hh)) ∧ wz = w') := Lib.hid fun wz hz => by
            rw [← BD.out]
            exact r8Has_any BA bc bn _ k wz ((RB6.out.next (below_more hb.out hb7 (Nat.le_refl _))).next hz) (by omega)
          have D2 := D1.out
          clear hc hb7
          cases hh
          all_goals (
            (refine wp_region_bel w7.heap.size w7 (Below.refl _ _) (by kernel_rfl) (by kernel_rfl) ?_; (repeat (go_big_quiet_step ((first | (go_at_call 18; exact bel_same (RH.out _ (Bel.below _))))))); refine wpQuiet_nil ?_; rintro w8 ⟨⟨_, hb8⟩, rfl⟩)
            have B8 := Lib.hid (below_more B7.out hb8 (Nat.le_refl _))
            clear d3 hb8
            go_wp2
            go_roundw
            case rel => exact ⟨k + 1, x + t, by omega, by go_num, rfl, by omega, E1, B8⟩
            case measure => simp [intOf]; omega)
      · obtain rfl : n = k := by omega
        have E2 : Hid (x = tt) := Lib.hid (by rw [HX.out, HTT.out])
        have E3 : (x == tt) = true := by rw [E2.out]; exact beq_self_eq_true _
        have E4 : (x != tt) = false := by rw [E2.out]; simp
        have H7 := Lib.hid (H6.out.next hb.out)
        have CW := r8Wide_any A1 c1 n1 wr.heap.size bs1 64 60000 wr H7.out HB1.out nn1 (by omega) (by omega) (by omega) (by omega)
        have wb := rWide_bd bs1 64 (m := 60000) (by omega)
        generalize rWide bs1 64 60000 = xw at CW wb
        go_wp2_with ((go_at_call 11; refine (CW).mono ?_; rintro e w' ⟨rfl, rfl⟩))
        have b20 := Lib.hid (below_more b6.out hb.out (Nat.le_refl _))
        have RL20 := Lib.hid (RL6.out.next hb.out)
        have RG20 := Lib.hid (RG6.out.next hb.out)
        have RO20 := Lib.hid (RO6.out.next hb.out)
        clear b6 RL6 RG6 RO6 H6 RB6 H7 hb CW E2 E3 E4 HX W6 hk xb hlt
        generalize wr = w20 at *
        have W20 := Lib.hid (Below.refl w20.heap.size w20)
        go_loopw [23, 22] (fun j num wr => ∃ (k : Nat) (x : Int), k ≤ 2 ∧ j = .int .i64 k ∧ num = .int .i64 x ∧ (0 ≤ x ∧ x ≤ 60000) ∧ Hid (Below w20.heap.size w20 wr)) (fun j _ _ => 2 - (intOf j).toNat)
        case atStart => exact ⟨0, xw, by omega, rfl, rfl, by omega, W20⟩
        case round =>
          obtain ⟨j, x, hj, rfl, rfl, xb, hb⟩ := hrel
          by_cases hlt : j < 2
          · have dj : decide ((j : Int) < 2) = true := decide_eq_true (by omega)
            have dj' : decide (j < 2) = true := decide_eq_true hlt
            have O0 := Lib.hid (own_emptyK wr 39 4)
            have B0 := Lib.hid ((Below.refl wr.heap.size wr).alloc (Nat.le_refl _) (.cells #[] 39))
            have RL21 := Lib.hid (RL20.out.next hb.out)
            have RG21 := Lib.hid (RG20.out.next hb.out)
            have RO21 := Lib.hid (RO20.out.next hb.out)
            have B21 := hb
            clear hb
            generalize wr = w21 at O0 B0 RL21 RG21 RO21 B21 ⊢
            go_upto_region 28 with fail
            generalize w21.alloc (.cells #[] 39) = w22 at O0 B0 ⊢
            go_wp2_with fail
            go_loopw [25, 24, 22] (fun i v num wr => ∃ (k : Nat) (zs : List Int) (x' : Int), k ≤ n ∧ i = .int .i64 k ∧ num = .int .i64 x' ∧ (0 ≤ x' ∧ x' ≤ 60000) ∧ Hid (zs.length = k) ∧ Hid (MemG gs zs) ∧ Hid (j = 0 → zs = own.take k ∧ (b = false → k = 0)) ∧ Hid (wr.ownsRow w21.heap.size 39 4 v k ((setG ds zs).flatMap cordF)) ∧ Hid (Below w21.heap.size w21 wr)) (fun i _ _ _ => n - (intOf i).toNat)
            case atStart => exact ⟨0, [], x, Nat.zero_le _, rfl, rfl, xb, Lib.hid rfl, Lib.hid (fun i z h => by simp at h), Lib.hid (fun _ => ⟨by simp, fun _ => rfl⟩), Lib.hid (by have h := O0.out; cases ds <;> exact h), B0⟩
            case round =>
              obtain ⟨k, zs, x', hk, rfl, rfl, xb', ZL, ZM, ZJ, O, hb3⟩ := hrel
              have SL : Hid ((setG ds zs).length = k) := Lib.hid (by rw [setG_len (by rw [ZL.out, HN.out]; exact hk), ZL.out])
              by_cases hlt3 : k < n
              · obtain ⟨y, hy, hym⟩ := getD_of (l := ds) (i := k) (by rw [HN.out]; exact hlt3)
                have HY := Lib.hid hy
                obtain ⟨r, hr, hrm⟩ := getD_of (l := gs) (i := k) (by rw [HGN.out]; exact hlt3)
                have HR := Lib.hid hr
                obtain ⟨bq, oq, rfl, hbB, hc⟩ := (RL21.out.next hb3.out).at_ cordF_len (by omega)
                have c0 : wr.cell? ⟨bq, oq + k * 4, none⟩ = some (.int .i64 y.a0) := hc k y 0 _ hy rfl
                have c1 : wr.cell? ⟨bq, oq + k * 4 + 1, none⟩ = some (.int .i64 y.a1) := hc k y 1 _ hy rfl
                have c2 : wr.cell? ⟨bq, oq + k * 4 + 2, none⟩ = some (.int .i64 y.a2) := hc k y 2 _ hy rfl
                have c3 : wr.cell? ⟨bq, oq + k * 4 + 3, none⟩ = some (.int .i64 y.a3) := hc k y 3 _ hy rfl
                have BA := (Below.refl wr.heap.size wr).alloc (Nat.le_refl _) (.cells #[.int .i64 y.a0, .int .i64 y.a1, .int .i64 y.a2, .int .i64 y.a3] 39)
                have KN := Lib.hid (Blk.new wr 39 #[.int .i64 y.a0, .int .i64 y.a1, .int .i64 y.a2, .int .i64 y.a3])
                have NV : Hid (∀ q, u24.ownBlock = some q → q < wr.heap.size) := Lib.hid fun q hq => (O.out.lt q hq).2
                have O4 := Lib.hid (own_belowB O.out BA NV.out)
                have B4 := Lib.hid (below_more hb3.out BA (Nat.le_refl _))
                have hwr := hb3.out.size
                obtain ⟨q, hq⟩ : ∃ q, q = wr.heap.size := ⟨_, rfl⟩
                rw [← hq] at KN NV hwr
                have HQ := Lib.hid hq
                clear BA hc hy hym hr hrm hb3 O hq
                go_upto_region 32 with fail
                rw [← HQ.out]
                clear c0 c1 c2 c3
                generalize wr.alloc (.cells #[.int .i64 y.a0, .int .i64 y.a1, .int .i64 y.a2, .int .i64 y.a3] 39) = w23 at KN O4 B4 ⊢
                have NE : Hid (Value.ownBlock u24 ≠ some q) := Lib.hid (fun e => by have := NV.out q e; omega)
                rcases (show j = 0 ∨ j = 1 by omega) with e0 | e0
                · cases b
                  · subst e0
                    as_aux_lemma =>
                      obtain rfl : 0 = k := by have := (ZJ.out rfl).2 rfl; omega
                      have hne : ((0 : Int) == n) = false := by simp; omega
                      have hne2 : ((0 : Int) != n) = true := by simp; omega
                      obtain ⟨A9, c9, rfl⟩ := own_valK O4.out
                      go_wp2_with fail
                      go_roundw
                      case rel => exact ⟨0 + 1, x', by omega, by go_num, rfl, xb', Lib.hid (below_more B21.out B4.out (Nat.le_refl _))⟩
                      case measure => simp [intOf]
                  · as_aux_lemma =>
                      have j1 : ((j : Int) == 0) = true := by rw [e0]; rfl
                      have j2 : (j == 0) = true := by rw [e0]; rfl
                      have j3 : ((j : Int) != 0) = false := by rw [e0]; rfl
                      obtain ⟨t1, t2, t3, t4, t5⟩ := HT.out rfl
                      have ZT := Lib.hid (ZJ.out e0).1
                      clear e0
                      clear ZJ
                      obtain rfl : n = on := by rw [← t1]; exact HON.out
                      obtain ⟨z, hz, hzm⟩ := getD_of (l := own) (i := k) (by rw [t1]; exact hlt3)
                      have HZR : Hid (z ∈ r) := Lib.hid (by have := t2 k z hz; rw [getD_ok HR.out] at this; exact this)
                      have HZ := Lib.hid hz
                      have ZZ := Lib.hid (show zs ++ [z] = own.take (k + 1) by rw [take_nextZ hz, ZT.out])
                      clear hz hzm t1 t2 t3 t4 t5
                      obtain ⟨bo, oo, rfl, hbo, hco⟩ := (RO21.out.next B4.out).ints (by omega)
                      have hco := hco k z HZ.out
                      obtain ⟨bg, og, rfl, hbg, hcg⟩ := (RG21.out.next B4.out).at_ (by omega)
                      obtain ⟨Ag, cg, hg0, hgr, hgc⟩ := hcg k r HR.out
                      have RG := Lib.hid hgr.1
                      have rl := hrl.out r (by exact List.mem_of_getElem? HR.out)
                      obtain ⟨m, hm⟩ : ∃ m, m = r.length := ⟨_, rfl⟩
                      rw [← hm] at hg0 RG rl
                      unfold maxLen at rl
                      have RH : Hid (∀ wz, Below w23.heap.size w23 wz → Calls Try.prog 18 #[.slice Ag m cg, .int .i64 z] wz fun e w' => e = .returned (.bool true) ∧ wz = w') := Lib.hid fun wz hz => by
                        rw [← decide_eq_true HZR.out]
                        exact r8Has_any Ag cg m r z wz (Rd.next RG.out hz) (by omega)
                      have d0 := bel_at (B := w23.heap.size) hg0 hbg
                      have d1 := bel_at (B := w23.heap.size) hco hbo
                      have nn : ((n : Int) != n) = false := by simp
                      have HCO := Lib.hid hco
                      clear hcg hgr hgc hm hg0 hco rl
                      go_wp2_with fail
                      (refine wp_region_bel w23.heap.size w23 (Below.refl _ _) (by kernel_rfl) (by kernel_rfl) ?_; (repeat (go_big_quiet_step ((first | (go_at_call 18; exact bel_same (RH.out _ (Bel.below _))))))); refine wpQuiet_nil ?_; rintro w24 ⟨⟨_, hb24⟩, rfl⟩)
                      have KN4 := KN.out.below hb24 KN.out.lt
                      have O24 := own_belowB O4.out hb24 (fun p hp => (O4.out.lt p hp).2)
                      have B24 := below_more B4.out hb24 (Nat.le_refl _)
                      have hc := KN4.cell
                      have hf := KN4.frozen
                      have hco := (hb24.cell (p := ⟨bo, oo + k, none⟩) hbo).trans HCO.out
                      clear d0 d1 hb24 RH
                      have KN5 := KN4.set_ 2 (.int .i64 z)
                      simp at KN5
                      have KN5 := Lib.hid KN5
                      have O5 := Lib.hid (own_farK O24 (p := ⟨q, 2, none⟩) NE.out (.int .i64 z))
                      have B5 := Lib.hid (B24.setCell (p := ⟨q, 2, none⟩) hwr (.int .i64 z))
                      clear KN KN4 O24 B24 O4 B4
                      go_upto_region 40 with fail
                      generalize w24.setCell ⟨q, 2, none⟩ (.int .i64 z) = w25 at KN5 O5 B5 ⊢
                      have hc := KN5.out.cell
                      have hsz5 := B5.out.size
                      have HZM := Lib.hid (ZM.out.add (z := z) (by rw [ZL.out, getD_ok HR.out]; exact HZR.out))
                      have HSG := Lib.hid (setG_add (ds := ds) (zs := zs) (x := y) z (by rw [ZL.out]; exact HY.out))
                      have ks := SL.out
                      have ks : (setG ds zs).length ≤ 1000 := by omega
                      go_wp2_with (at_builtin; refine appC rfl (.tmp 213) (.tmp 215) rfl w21.heap.size u24 (setG ds zs) y.a0 y.a1 z y.a3 rfl (by rw [SL.out]; exact O5.out) rfl hsz5 ks ?_; intro v9 w9 o9 b9 g9; have O9 := Lib.hid o9; have B9 := Lib.hid b9; clear o9 b9 g9)
                      go_roundw
                      case rel => exact ⟨k + 1, zs ++ [z], _, by omega, by go_num, rfl, by omega, Lib.hid (by simp [ZL.out]), HZM, Lib.hid (fun _ => ⟨ZZ.out, fun e => by cases e⟩), Lib.hid (by rw [HSG.out]; have h := O9.out; rw [List.length_append, SL.out] at h; exact h), Lib.hid (B5.out.trans B9.out)⟩
                      case measure => simp [intOf]; omega
                · obtain ⟨bg, og, rfl, hbg, hcg⟩ := (RG21.out.next B4.out).at_ (by omega)
                  obtain ⟨Ag, cg, hg0, hgr, hgc⟩ := hcg k r HR.out
                  have RG := Lib.hid hgr.1
                  have rl := (HGR.out r (List.mem_of_getElem? HR.out)).1
                  obtain ⟨m, hm⟩ : ∃ m, m = r.length := ⟨_, rfl⟩
                  rw [← hm] at hg0 RG rl
                  have HM := Lib.hid hm
                  clear hcg hgr hgc hm
                  by_cases m0 : m = 0
                  · subst e0
                    as_aux_lemma =>
                      have hne : ((k : Int) == n) = false := by simp; omega
                      have hne2 : ((k : Int) != n) = true := by simp; omega
                      subst m0
                      obtain ⟨A9, c9, rfl⟩ := own_valK O4.out
                      go_wp2_with fail
                      go_roundw
                      case rel => exact ⟨1 + 1, x', by omega, by go_num, rfl, xb', Lib.hid (below_more B21.out B4.out (Nat.le_refl _))⟩
                      case measure => simp [intOf]
                  · as_aux_lemma =>
                      have j1 : ((j : Int) == 0) = false := by rw [e0]; rfl
                      have j2 : (j == 0) = false := by rw [e0]; rfl
                      have j3 : ((j : Int) != 0) = true := by rw [e0]; rfl
                      have HJ := Lib.hid e0
                      clear e0
                      obtain ⟨X, hX⟩ : ∃ X, X = (x' % (m : Int)).toNat := ⟨_, rfl⟩
                      have X0 := Int.emod_nonneg x' (show (m : Int) ≠ 0 by omega)
                      have X1 := Int.emod_lt_of_pos x' (show (0 : Int) < m by omega)
                      have e1 : x' % (m : Int) = (X : Int) := by omega
                      have e2 : x'.tmod (m : Int) = (X : Int) := by rw [Int.tmod_eq_emod_of_nonneg (by omega)]; exact e1
                      have Xm : X < m := by omega
                      have m1 : ((m : Int) == 0) = false := by simp; omega
                      have m2 : ¬ (m : Int) = 0 := by omega
                      clear X0 X1 hX
                      have e4 : 0 ≤ x' / 3 ∧ x' / 3 ≤ 60000 := by omega
                      obtain ⟨z, hz, hzm⟩ := getD_of (l := r) (i := X) (by rw [← HM.out]; exact Xm)
                      have HZR := Lib.hid hzm
                      obtain ⟨bz, oz, rfl, hbz, hcz⟩ := Rd.ints RG.out (by omega)
                      have hz0 := hcz X z hz
                      clear hcz hz hzm
                      have hc := KN.out.cell
                      have hf := KN.out.frozen
                      go_upto_region 38 with fail
                      go_still_tail 14, (by kernel_rfl)
                      change wpList _ _ _ _ _ w23.drew
                      have KN4 := KN.out.drew
                      have O24 : w23.drew.ownsRow w21.heap.size 39 4 u24 k ((setG ds zs).flatMap cordF) := O4.out
                      have B24 := below_drew B4.out
                      clear hc hf hg0 hz0 KN O4 B4
                      generalize w23.drew = w24 at KN4 O24 B24 ⊢
                      have hc := KN4.cell
                      have hf := KN4.frozen
                      have KN5 := KN4.set_ 2 (.int .i64 z)
                      simp at KN5
                      have KN5 := Lib.hid KN5
                      have O5 := Lib.hid (own_farK O24 (p := ⟨q, 2, none⟩) NE.out (.int .i64 z))
                      have B5 := Lib.hid (B24.setCell (p := ⟨q, 2, none⟩) hwr (.int .i64 z))
                      clear KN4 O24 B24
                      go_upto_region 40 with fail
                      generalize w24.setCell ⟨q, 2, none⟩ (.int .i64 z) = w25 at KN5 O5 B5 ⊢
                      have hc := KN5.out.cell
                      have hsz5 := B5.out.size
                      have HZM := Lib.hid (ZM.out.add (z := z) (by rw [ZL.out, getD_ok HR.out]; exact HZR.out))
                      have HSG := Lib.hid (setG_add (ds := ds) (zs := zs) (x := y) z (by rw [ZL.out]; exact HY.out))
                      have ks := SL.out
                      have ks : (setG ds zs).length ≤ 1000 := by omega
                      go_wp2_with (at_builtin; refine appC rfl (.tmp 213) (.tmp 215) rfl w21.heap.size u24 (setG ds zs) y.a0 y.a1 z y.a3 rfl (by rw [SL.out]; exact O5.out) rfl hsz5 ks ?_; intro v9 w9 o9 b9 g9; have O9 := Lib.hid o9; have B9 := Lib.hid b9; clear o9 b9 g9)
                      go_roundw
                      case rel => exact ⟨k + 1, zs ++ [z], _, by omega, by go_num, rfl, by omega, Lib.hid (by simp [ZL.out]), HZM, Lib.hid (fun e => by have := HJ.out; omega), Lib.hid (by rw [HSG.out]; have h := O9.out; rw [List.length_append, SL.out] at h; exact h), Lib.hid (B5.out.trans B9.out)⟩
                      case measure => simp [intOf]; omega
              · as_aux_lemma =>
                  obtain rfl : n = k := by omega
                  obtain ⟨SA, sc, rfl⟩ := own_valK O.out
                  have SOK := Lib.hid (set_ok HN.out n4 ZL.out HV.out HGR.out ZM.out)
                  have RS := Lib.hid (Rd.own O.out)
                  have B22 := Lib.hid (below_more B21.out hb3.out (Nat.le_refl _))
                  have C1 := TotalTension_s SA sc n (setG ds zs) wr SL.out RS.out SOK.out
                  obtain ⟨T, hT⟩ : ∃ x, x = totTo (setG ds zs) n := ⟨_, rfl⟩
                  rw [← hT] at C1
                  have EB := Lib.hid fun (h1 : brTo (setG ds zs) share n = []) (h2 : T ≤ most) => HBEST.out zs ZL.out ZM.out h1 (by rw [← hT]; exact h2)
                  have EZ : Hid (j = 0 → b = true ∧ brTo (setG ds zs) share n = [] ∧ T ≤ most ∧ spread = sprTo (tsF ds 0 zs) n) := Lib.hid fun e => by
                    have zj := ZJ.out e
                    cases hb : b
                    · have := zj.2 hb
                      have := (HF.out hb).2
                      omega
                    · obtain ⟨t1, t2, t3, t4, t5⟩ := HT.out hb
                      have e1 : zs = own := by rw [zj.1, ← t1]; exact List.take_length
                      rw [hT, e1]
                      exact ⟨rfl, t3, t4, t5⟩
                  have TS : Hid (∀ i, i < n → ∃ y, (setG ds zs)[i]? = some y ∧ cordB y.a0 y.a1 y.a2 y.a3 = true ∧ (tsF ds 0 zs).getD i 0 = tenL y.a0 y.a1 y.a2) := Lib.hid fun i hi => set_ts HN.out ZL.out SOK.out hi
                  clear hT ZM ZJ O hb3 B21 O0 B0
                  go_wp2_with fail
                  refine C1.mono ?_
                  rintro r w26 ⟨rfl, hb26⟩
                  have RS26 := Lib.hid (RS.out.next hb26)
                  have B26 := Lib.hid (below_more B22.out hb26 (Nat.le_refl _))
                  have C2 := BreakingStrings_s SA sc n (setG ds zs) share w26 SL.out RS26.out SOK.out sb.1 sb.2
                  clear C1 hb26 RS B22
                  go_wp2_with fail
                  refine C2.mono ?_
                  rintro r w27 ⟨v, rfl, ho, hb27⟩
                  obtain ⟨RA, rc, rfl⟩ := own_val ho
                  have RS27 := Lib.hid (RS26.out.next hb27)
                  have B27 := Lib.hid (below_more B26.out hb27 (Nat.le_refl _))
                  obtain ⟨es, hes⟩ : ∃ es, es = setG ds zs := ⟨_, rfl⟩
                  obtain ⟨br, hbr⟩ : ∃ x, x = brTo (setG ds zs) share n := ⟨_, rfl⟩
                  rw [← hbr] at EB EZ ⊢
                  rw [← hes] at RS27 TS
                  obtain ⟨bz, hbz⟩ : ∃ x, x = br.length := ⟨_, rfl⟩
                  have HBZ : Hid (bz = 0 ↔ br = []) := Lib.hid (by rw [hbz]; exact List.length_eq_zero_iff)
                  have bzl : bz ≤ n := by rw [hbz, hbr]; exact brTo_len _ _ _
                  simp only
                  rw [← hbz]
                  obtain ⟨ts, hts⟩ : ∃ x, x = tsF ds 0 zs := ⟨_, rfl⟩
                  rw [← hts] at EB EZ TS
                  have W27 := Lib.hid (Below.refl w27.heap.size w27)
                  clear C2 hb27 RS26 B26 ho hes hbr hbz hts
                  go_wp2_with fail
                  go_loopw [32, 31] (fun i m wr => ∃ (k : Nat) (x : Int), k ≤ n ∧ i = .int .i64 k ∧ m = .int .i64 x ∧ (0 ≤ x ∧ x ≤ 10000000) ∧ Hid (x = sprTo ts k) ∧ Hid (Below w27.heap.size w27 wr)) (fun i _ _ => n - (intOf i).toNat)
                  case atStart => exact ⟨0, 0, Nat.zero_le _, rfl, rfl, by omega, Lib.hid rfl, W27⟩
                  case round =>
                    obtain ⟨k, x4, hk4, rfl, rfl, xb4, HX4, hb4⟩ := hrel
                    by_cases hlt4 : k < n
                    · as_aux_lemma =>
                        obtain ⟨y, hy, hyB, hyT⟩ := TS.out k hlt4
                        have HY := Lib.hid hy
                        have HYB := Lib.hid hyB
                        have HYT := Lib.hid hyT
                        have yok := cordOk_of hyB
                        have tb1 := tenL_bd yok.1.1 yok.1.2 yok.2.1.1 yok.2.1.2 yok.2.2.1.1 yok.2.2.1.2
                        clear hy hyB hyT yok
                        generalize wr = w28 at hb4 ⊢
                        have W28 := Lib.hid (Below.refl w28.heap.size w28)
                        have HN4 := Lib.hid hlt4
                        go_wp2_with fail
                        go_loopw [33, 31] (fun i m wr => ∃ (j : Nat) (x : Int), j ≤ k ∧ i = .int .i64 j ∧ m = .int .i64 x ∧ (0 ≤ x ∧ x ≤ 10000000) ∧ Hid (x = spr1 ts (ts.getD k 0) (sprTo ts k) j) ∧ Hid (Below w28.heap.size w28 wr)) (fun i _ _ => k - (intOf i).toNat)
                        case atStart => exact ⟨0, x4, Nat.zero_le _, rfl, rfl, xb4, Lib.hid (by rw [spr1]; exact HX4.out), W28⟩
                        case round =>
                          obtain ⟨i, x5, hi5, rfl, rfl, xb5, HX5, hb5⟩ := hrel
                          by_cases hlt5 : i < k
                          · as_aux_lemma =>
                              obtain ⟨u, hu, huB, huT⟩ := TS.out i (by omega)
                              have HU := Lib.hid hu
                              have HUB := Lib.hid huB
                              have uok := cordOk_of huB
                              have tb2 := tenL_bd uok.1.1 uok.1.2 uok.2.1.1 uok.2.1.2 uok.2.2.1.1 uok.2.2.1.2
                              have HUT := Lib.hid huT
                              have BB := Lib.hid (below_more hb4.out hb5.out (Nat.le_refl _))
                              obtain ⟨t1, ht1⟩ : ∃ t, t = tenL y.a0 y.a1 y.a2 := ⟨_, rfl⟩
                              obtain ⟨t2, ht2⟩ : ∃ t, t = tenL u.a0 u.a1 u.a2 := ⟨_, rfl⟩
                              have S5 : Hid (max x5 (max (t1 - t2) (-(t1 - t2))) = spr1 ts (ts.getD k 0) (sprTo ts k) (i + 1)) := Lib.hid (by
                                rw [spr1, ← HX5.out, HUT.out, HYT.out, ← ht1, ← ht2]; omega)
                              have C1 : Hid (∀ w, Calls Try.prog 17 #[cordV y.a0 y.a1 y.a2 y.a3] w fun e w' => e = .returned (.tuple #[.int .i64 t1, .int .i64 0]) ∧ Below w.heap.size w w') := Lib.hid fun w => by rw [ht1]; exact TensionOf_ok _ _ _ _ w HYB.out
                              have C2 : Hid (∀ w, Calls Try.prog 17 #[cordV u.a0 u.a1 u.a2 u.a3] w fun e w' => e = .returned (.tuple #[.int .i64 t2, .int .i64 0]) ∧ Below w.heap.size w w') := Lib.hid fun w => by rw [ht2]; exact TensionOf_ok _ _ _ _ w HUB.out
                              rw [← ht1] at tb1
                              rw [← ht2] at tb2
                              obtain ⟨bq, oq, rfl, hbB, hc⟩ := (RS27.out.next BB.out).at_ cordF_len (by omega)
                              have HC := Lib.hid hc
                              have c0 : wr.cell? ⟨bq, oq + k * 4, none⟩ = some (.int .i64 y.a0) := hc k y 0 _ HY.out rfl
                              have c1 : wr.cell? ⟨bq, oq + k * 4 + 1, none⟩ = some (.int .i64 y.a1) := hc k y 1 _ HY.out rfl
                              have c2 : wr.cell? ⟨bq, oq + k * 4 + 2, none⟩ = some (.int .i64 y.a2) := hc k y 2 _ HY.out rfl
                              have c3 : wr.cell? ⟨bq, oq + k * 4 + 3, none⟩ = some (.int .i64 y.a3) := hc k y 3 _ HY.out rfl
                              have C1 := C1.out wr
                              clear hu huB huT uok ht1 ht2 hc
                              go_wp2_with fail
                              refine C1.mono ?_
                              rintro r w30 ⟨rfl, hb30⟩
                              have B30 := Lib.hid (below_more hb5.out hb30 (Nat.le_refl _))
                              have hc := HC.out
                              have e0 : w30.cell? ⟨bq, oq + i * 4, none⟩ = some (.int .i64 u.a0) := (hb30.cell (p := ⟨bq, oq + i * 4, none⟩) hbB).trans (hc i u 0 _ HU.out rfl)
                              have e1 : w30.cell? ⟨bq, oq + i * 4 + 1, none⟩ = some (.int .i64 u.a1) := (hb30.cell (p := ⟨bq, oq + i * 4 + 1, none⟩) hbB).trans (hc i u 1 _ HU.out rfl)
                              have e2 : w30.cell? ⟨bq, oq + i * 4 + 2, none⟩ = some (.int .i64 u.a2) := (hb30.cell (p := ⟨bq, oq + i * 4 + 2, none⟩) hbB).trans (hc i u 2 _ HU.out rfl)
                              have e3 : w30.cell? ⟨bq, oq + i * 4 + 3, none⟩ = some (.int .i64 u.a3) := (hb30.cell (p := ⟨bq, oq + i * 4 + 3, none⟩) hbB).trans (hc i u 3 _ HU.out rfl)
                              have C2 := C2.out w30
                              clear C1 c0 c1 c2 c3 hb30 hc
                              go_wp2_with fail
                              refine C2.mono ?_
                              rintro r w31 ⟨rfl, hb31⟩
                              have B31 := Lib.hid (below_more B30.out hb31 (Nat.le_refl _))
                              clear C2 e0 e1 e2 e3 hb31
                              go_wp2_with ((go_at_call 21; refine (r8Abs_any _ _ (by omega) (by omega)).mono ?_; rintro e w' ⟨rfl, rfl⟩))
                              go_roundw
                              case rel => exact ⟨i + 1, max x5 (max (t1 - t2) (-(t1 - t2))), by omega, by go_num, congrArg (Value.int .i64) (by split <;> omega), by omega, S5, B31⟩
                              case measure => simp [intOf]; omega
                          · as_aux_lemma =>
                              obtain rfl : k = i := by omega
                              have HX6 : Hid (x5 = sprTo ts (k + 1)) := Lib.hid (by rw [sprTo]; exact HX5.out)
                              have B6 := Lib.hid (below_more hb4.out hb5.out (Nat.le_refl _))
                              go_wp2_with fail
                              go_roundw
                              case rel => exact ⟨k + 1, x5, by omega, by go_num, rfl, xb5, HX6, B6⟩
                              case measure => have := HN4.out; simp [intOf]; omega
                    · obtain rfl : n = k := by omega
                      have BN := Lib.hid (below_more B27.out hb4.out (Nat.le_refl _))
                      rw [← HX4.out] at EB EZ
                      clear hb4 B27 W27 HX4 TS RS27
                      rcases (show j = 0 ∨ j = 1 by omega) with rfl | rfl
                      · as_aux_lemma =>
                          obtain ⟨rfl, z1, z2, z3⟩ := EZ.out rfl
                          obtain rfl := HBZ.out.2 z1
                          have f1 : decide (T ≤ most) = true := decide_eq_true z2
                          have f2 : (x4 != spread) = false := by rw [z3]; simp
                          have f3 : (x4 == spread) = true := by rw [z3]; simp
                          clear z1 z2 z3 EZ EB HBZ
                          go_wp2_with fail
                          go_roundw
                          case rel => exact ⟨0 + 1, x', by omega, by go_num, rfl, xb', BN⟩
                          case measure => simp [intOf]
                      · by_cases hb0 : bz = 0
                        · subst hb0
                          by_cases ht : T ≤ most
                          · as_aux_lemma =>
                              obtain ⟨a1, a2, a3⟩ := EB.out (HBZ.out.1 rfl) ht
                              have f1 : decide (T ≤ most) = true := decide_eq_true ht
                              have f2 : decide (x4 < spread) = false := decide_eq_false (by omega)
                              have f3 : decide (many < 1) = false := decide_eq_false (by omega)
                              have f4 : (a != 0) = false := by rw [a1]; rfl
                              have f5 : (a == 0) = true := by rw [a1]; rfl
                              obtain rfl : true = b := by rw [← q1]; exact f5.symm
                              clear a1 a2 a3 EZ EB HBZ
                              go_wp2_with fail
                              go_roundw
                              case rel => exact ⟨1 + 1, x', by omega, by go_num, rfl, xb', BN⟩
                              case measure => simp [intOf]
                          · as_aux_lemma =>
                              have f1 : decide (T ≤ most) = false := decide_eq_false ht
                              clear EZ EB HBZ
                              go_wp2_with fail
                              go_roundw
                              case rel => exact ⟨1 + 1, x', by omega, by go_num, rfl, xb', BN⟩
                              case measure => simp [intOf]
                        · as_aux_lemma =>
                            have f1 : ((bz : Int) == 0) = false := by simp; omega
                            have f2 : (bz == 0) = false := by simp; omega
                            clear EZ EB HBZ
                            go_wp2_with fail
                            go_roundw
                            case rel => exact ⟨1 + 1, x', by omega, by go_num, rfl, xb', BN⟩
                            case measure => simp [intOf]
          · obtain rfl : j = 2 := by omega
            have BZ := Lib.hid (below_more b20.out hb.out (Nat.le_refl _))
            cases b
            · go_wp2_with fail
              go_ret
              exact ⟨rfl, BZ.out⟩
            · go_wp2_with fail
              go_ret
              exact ⟨rfl, BZ.out⟩
end Go.Proofs.Ytemkggecempmgaa
