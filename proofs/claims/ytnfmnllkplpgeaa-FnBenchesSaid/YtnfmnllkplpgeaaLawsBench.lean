/- The law FnBenches. -/
import Derived.Test.YtnfmnllkplpgeaaBenchP
import Derived.Test.YtnfmnllkplpgeaaBenchF
import Derived.Test.YtnfmnllkplpgeaaPartFns
import Derived.Test.YtnfmnllkplpgeaaBytes
import Derived.StillTailTactics
import Derived.Deep.DeepCutAuto
set_option linter.unusedVariables false
set_option linter.unusedSimpArgs false
namespace Go.Proofs.Ytnfmnllkplpgeaa
open Go.RowKit

theorem b10Long_is {A : Option Addr} {c n : Nat} {b : Bool} (h : n ≤ maxLen) (e : decide (1048576 < n) = b) (w : World) :
    Calls Try.prog 4 #[.slice A n c] w fun e w' => e = .returned (.bool b) ∧ w = w' := by
  rw [← e, show decide (1048576 < n) = decide (1048576 < (n : Int)) from decide_eq_decide.2 (by omega)]
  exact b10Long_any A c n w h
theorem BookS.f1 {rs next : List (List Int)} {bn fr dy wk : Int} (h : BookS rs next bn fr dy wk) : fr ≤ 40 := by have := h.fd; have := h.d1; omega
theorem PlanD.max {rs : List (List Int)} (h : PlanD rs) : rs.length ≤ maxLen ∧ ∀ r ∈ rs, r.length ≤ maxLen := by
  have := h.1
  refine ⟨by unfold maxLen; omega, fun r hr => ?_⟩
  have := h.2 r hr
  unfold maxLen; omega
theorem planB_max {rs : List (List Int)} (h : planB rs = true) : rs.length ≤ maxLen ∧ ∀ r ∈ rs, r.length ≤ maxLen := by
  obtain ⟨_, h2, h3⟩ := planB_t h
  refine ⟨by unfold maxLen; omega, fun r hr => ?_⟩
  have := (h3 r hr).1
  unfold maxLen; omega
theorem LoadOf_is {rs : List (List Int)} (h : planB rs = true) : LoadOf_L rs = (loads rs rs.length, 0) := by unfold LoadOf_L; rw [if_pos h]
theorem loads_at {rs : List (List Int)} {b : Nat} (h : b < rs.length) : (loads rs rs.length)[b]? = some (loadTo (rs.getD b []) 40) := by
  unfold loads
  rw [List.take_length, List.getElem?_map, getR_at h]
  rfl
theorem FreeDays_is {rs : List (List Int)} {b : Int} (h : planB rs = true) (h0 : 0 ≤ b) (h1 : b < rs.length) : FreeDays_L rs b = (freeTo (rs.getD b.toNat []) 40, 0) := by
  unfold FreeDays_L
  rw [if_pos h, if_pos]
  unfold atB
  exact decide_eq_true ⟨h0, h1⟩
theorem PartsOf_is {rs : List (List Int)} {wk : Int} (h : planB rs = true) (h1 : 1 ≤ wk) (h8 : wk ≤ 8) (hp : (pAll wk rs rs.length).length ≠ 0) : PartsOf_L rs wk = (pAll wk rs rs.length, 0) := by
  unfold PartsOf_L
  rw [if_pos h, if_pos (inB_mk ⟨h1, h8⟩), if_neg hp]
set_option maxRecDepth 100000 in
set_option maxHeartbeats 80000000 in
theorem FnBenches_walk (v0 v1 : Value) (w : World) (i0 : IsU8S w v0) (i1 : IsU8S w v1) :
    Calls Try.prog 3 #[v0, v1] w fun e w' => e = .returned (.bool true) ∧ Below w.heap.size w w' := by
  obtain ⟨A0, n0, c0, bs0, rfl, m0, R0, hb0⟩ := i0
  obtain ⟨A1, n1, c1, bs1, rfl, m1, R1, hb1⟩ := i1
  have M0 := Lib.hid m0
  have M1 := Lib.hid m1
  have H0 := Lib.hid R0
  have H1 := Lib.hid R1
  have HB0 := Lib.hid hb0
  have HB1 := Lib.hid hb1
  clear R0 R1 hb0 hb1 m0 m1
  rcases Nat.lt_or_ge 1048576 n0 with nn0 | nn0
  · have C0 := b10Long_is (A := A0) (c := c0) M0.out (decide_eq_true nn0) w
    have C1 := b10Long_is (A := A1) (c := c1) M1.out rfl w
    clear nn0
    go_enter Try.func3, Try.ntmps3
    go_wp2_with (first | (go_at_call 4; refine (C0).mono ?_; rintro e w' ⟨rfl, rfl⟩) | (go_at_call 4; refine (C1).mono ?_; rintro e w' ⟨rfl, rfl⟩))
    go_ret
    exact ⟨rfl, Below.refl _ _⟩
  have C0 := b10Long_is (A := A0) (c := c0) M0.out (decide_eq_false (by omega)) w
  rcases Nat.lt_or_ge 1048576 n1 with nn1 | nn1
  · have C1 := b10Long_is (A := A1) (c := c1) M1.out (decide_eq_true nn1) w
    clear nn1
    go_enter Try.func3, Try.ntmps3
    go_wp2_with (first | (go_at_call 4; refine (C0).mono ?_; rintro e w' ⟨rfl, rfl⟩) | (go_at_call 4; refine (C1).mono ?_; rintro e w' ⟨rfl, rfl⟩))
    go_ret
    exact ⟨rfl, Below.refl _ _⟩
  have C1 := b10Long_is (A := A1) (c := c1) M1.out (decide_eq_false (by omega)) w
  go_enter Try.func3, Try.ntmps3
  go_wp2_with (first | (go_at_call 4; refine (C0).mono ?_; rintro e w' ⟨rfl, rfl⟩) | (go_at_call 4; refine (C1).mono ?_; rintro e w' ⟨rfl, rfl⟩))
  clear C0 C1
  refine (DrawBookDays_any A0 c0 n0 bs0 w H0.out HB0.out nn0).mono ?_
  rintro r w1 ⟨v, rs, bn, fr, dy, wk, rfl, ho, hd, bnb, frb, dyb, wkb, hb⟩
  obtain ⟨PA, pc, rfl⟩ := own2_val ho
  have PM := hd.max
  have P1 := Lib.hid (ho.reads.all (Nat.le_refl _))
  have b1 := Lib.hid hb
  clear ho hd hb
  have C2 := BookDays_i PA pc rs.length rs bn fr dy wk w1 P1.out PM.1 PM.2
  have BO := Lib.hid (book_ok (rs := rs) (bn := bn) (fr := fr) (dy := dy) (wk := wk))
  have BN := Lib.hid (book_no (rs := rs) (bn := bn) (fr := fr) (dy := dy) (wk := wk))
  obtain ⟨nx, hnx⟩ : ∃ x, x = (BookDays_L rs bn fr dy wk).1 := ⟨_, rfl⟩
  obtain ⟨cd, hcd⟩ : ∃ x, x = (BookDays_L rs bn fr dy wk).2 := ⟨_, rfl⟩
  rw [← hnx, ← hcd] at C2 BO
  rw [← hnx, ← hcd] at BN
  have PM := Lib.hid PM
  clear hnx hcd
  obtain ⟨N, hN⟩ : ∃ N, N = rs.length := ⟨_, rfl⟩
  have HN := Lib.hid hN
  rw [← hN] at C2 P1
  go_wp2_with fail
  rw [← hN]
  clear hN
  refine C2.mono ?_
  rintro r w2 ⟨v, rfl, ho, hb2⟩
  obtain ⟨QA, qc, rfl⟩ := own2_val ho
  obtain ⟨K, hK⟩ : ∃ K, K = nx.length := ⟨_, rfl⟩
  rw [← hK] at ho ⊢
  have HK := Lib.hid hK
  have Q2 := Lib.hid (ho.reads.all (Nat.le_refl _))
  have P2 := Lib.hid (P1.out.next hb2)
  have b2 := Lib.hid (below_more b1.out hb2 (Nat.le_refl _))
  clear ho hb2 C2 P1 b1 hK
  go_upto_if 62 with fail
  go_cut [10] (fun _ wz => Hid (Below w2.heap.size w2 wz))
  case first =>
    by_cases h0 : cd = 0
    · as_aux_lemma =>
        have BS := Lib.hid (BO.out h0)
        have e0 : (cd == 0) = true := by simpa using h0
        subst h0
        clear BO BN frb dyb bnb wkb e0
        have hb0 := BS.out.b0
        have hb1 := BS.out.b1
        rw [← HN.out] at hb1
        obtain ⟨b, rfl⟩ : ∃ b : Nat, bn = b := ⟨bn.toNat, by omega⟩
        obtain ⟨d, rfl⟩ : ∃ x : Nat, dy = x := ⟨dy.toNat, by have := BS.out.d1; omega⟩
        have hbN : b < N := by omega
        have hfr : 0 ≤ fr ∧ fr ≤ 40 ∧ 0 ≤ (d : Int) ∧ (d : Int) ≤ 40 ∧ fr + (d : Int) ≤ 40 := by
          have := BS.out.f0; have := BS.out.d1; have := BS.out.fd; omega
        have KN : Hid (K = N) := Lib.hid (by rw [HK.out, HN.out, BS.out.len])
        obtain rfl : K = N := KN.out
        have NM := Lib.hid (planB_max BS.out.plan2)
        have nm : K ≤ maxLen := by rw [HK.out]; exact NM.out.1
        have bl := loadTo_bd (rs.getD b []) 40
        have LB : Hid ((loads rs rs.length)[b]? = some (loadTo (rs.getD b []) 40)) := Lib.hid (loads_at (by rw [← HN.out]; exact hbN))
        have LA : Hid ((loads nx nx.length)[b]? = some (loadTo (rs.getD b []) 40 + (d : Int))) := Lib.hid (by
          rw [loads_at (by rw [← HK.out]; exact hbN)]
          have := BS.out.load
          simp only [Int.toNat_natCast] at this
          rw [this])
        have FR : Hid (((freeTo (nx.getD b []) 40).length : Int) + (loadTo (rs.getD b []) 40 + (d : Int)) = 40) := Lib.hid (by
          have h1 := free_load (nx.getD b []) 40
          have := BS.out.load
          simp only [Int.toNat_natCast] at this
          omega)
        have FN : Hid (∀ x : Int, fr ≤ x → x < fr + d → decide (x ∈ freeTo (nx.getD b []) 40) = false) := Lib.hid (fun x h1 h2 => decide_eq_false (fun hm => by
          obtain ⟨j, _, rfl, hz⟩ := free_mem hm
          have := BS.out.used j h1 h2
          simp only [Int.toNat_natCast] at this
          exact this hz))
        have C3 := LoadOf_i PA pc K rs w2 P2.out (by rw [HN.out]; exact PM.out.1) PM.out.2
        rw [LoadOf_is BS.out.plan] at C3
        have C4 := Lib.hid (fun w3 (h : Rd2 w3 0 w3.heap.size QA K nx) => LoadOf_i QA qc K nx w3 h nm NM.out.2)
        rw [LoadOf_is BS.out.plan2] at C4
        have C5 := Lib.hid (fun w3 (h : Rd2 w3 0 w3.heap.size QA K nx) => PartsOf_i QA qc K nx wk w3 h nm NM.out.2)
        rw [PartsOf_is BS.out.plan2 BS.out.w1 BS.out.w8 BS.out.parts] at C5
        have C6 := Lib.hid (fun w3 (h : Rd2 w3 0 w3.heap.size QA K nx) => FreeDays_i QA qc K nx (b : Int) w3 h nm NM.out.2)
        rw [FreeDays_is BS.out.plan2 BS.out.b0 (by have := BS.out.b1; rw [BS.out.len]; exact this)] at C6
        simp only [Int.toNat_natCast] at C6
        have C7 := Lib.hid (fun w3 (h : Rd2 w3 0 w3.heap.size QA K nx) => ValidPlan_s QA qc K 0 w3.heap.size nx w3 h nm NM.out.2)
        rw [BS.out.plan2] at C7
        have PN := Lib.hid BS.out.parts
        have l1 : (loads rs rs.length).length = K := by rw [loads_len (Nat.le_refl _), ← HN.out]
        have l2 : (loads nx nx.length).length = K := by rw [loads_len (Nat.le_refl _), ← HK.out]
        generalize loads rs rs.length = zb at C3 LB l1
        generalize loads nx nx.length = za at C4 LA l2
        generalize loadTo (rs.getD b []) 40 = lb at LB LA FR bl
        generalize pAll wk nx nx.length = ps at C5 PN
        have fl := freeTo_len (nx.getD b []) 40
        generalize freeTo (nx.getD b []) 40 = zf at C6 FR FN fl
        obtain ⟨fn, hfn⟩ : ∃ x, x = zf.length := ⟨_, rfl⟩
        obtain ⟨pn, hpn⟩ : ∃ x, x = ps.length := ⟨_, rfl⟩
        rw [← hfn] at FR fl
        rw [← hpn] at PN
        have HFN := Lib.hid hfn
        have HPN := Lib.hid hpn
        have L1 := Lib.hid l1
        have L2 := Lib.hid l2
        have W2 := Lib.hid (Below.refl w2.heap.size w2)
        clear hfn hpn l1 l2 BS NM HK HN PM hb0 hb1
        go_wp2_with fail
        refine C3.mono ?_
        rintro r w3 ⟨v, rfl, ho, hb3⟩
        obtain ⟨BA, bc, rfl⟩ := own_val ho
        rw [L1.out] at ho ⊢
        have RB3 := Lib.hid (Rd.own ho)
        have Q3 := Lib.hid (Q2.out.next hb3)
        have B3 := Lib.hid (below_more W2.out hb3 (Nat.le_refl _))
        have C4 := C4.out w3 Q3.out
        clear ho hb3 C3 P2 Q2
        go_wp2_with fail
        refine C4.mono ?_
        rintro r w4 ⟨v, rfl, ho, hb4⟩
        obtain ⟨AA, ac, rfl⟩ := own_val ho
        rw [L2.out] at ho ⊢
        have RA4 := Lib.hid (Rd.own ho)
        have RB4 := Lib.hid (RB3.out.next hb4)
        have Q4 := Lib.hid (Q3.out.next hb4)
        have B4 := Lib.hid (below_more B3.out hb4 (Nat.le_refl _))
        have C5 := C5.out w4 Q4.out
        clear ho hb4 C4 RB3 Q3 B3
        go_wp2_with fail
        refine C5.mono ?_
        rintro r w5 ⟨v, rfl, ho, hb5⟩
        obtain ⟨SA, sc, rfl⟩ := own2_val ho
        rw [← HPN.out]
        have RA5 := Lib.hid (RA4.out.next hb5)
        have RB5 := Lib.hid (RB4.out.next hb5)
        have Q5 := Lib.hid (Q4.out.next hb5)
        have B5 := Lib.hid (below_more B4.out hb5 (Nat.le_refl _))
        have C6 := C6.out w5 Q5.out
        clear ho hb5 C5 RA4 RB4 Q4 B4
        go_wp2_with fail
        refine C6.mono ?_
        rintro r w6 ⟨v, rfl, ho, hb6⟩
        obtain ⟨FA, fc, rfl⟩ := own_val ho
        rw [← HFN.out] at ho ⊢
        have RF6 := Lib.hid (Rd.own ho)
        have RA6 := Lib.hid (RA5.out.next hb6)
        have RB6 := Lib.hid (RB5.out.next hb6)
        have Q6 := Lib.hid (Q5.out.next hb6)
        have B6 := Lib.hid (below_more B5.out hb6 (Nat.le_refl _))
        have C7 := Lib.hid (fun wz (hz : Below w6.heap.size w6 wz) => C7.out wz (Q6.out.next hz))
        clear ho hb6 C6 RA5 RB5 Q5 B5
        obtain ⟨gb, ob, rfl, hgb, hcb⟩ := RB6.out.ints (by omega)
        obtain ⟨ga, oa, rfl, hga, hca⟩ := RA6.out.ints (by omega)
        have cb := bel_at (B := w6.heap.size) (W0 := w6) (hcb b lb LB.out) hgb
        have ca := bel_at (B := w6.heap.size) (W0 := w6) (hca b _ LA.out) hga
        have tb0 : (0 : Int) ≤ b := by omega
        have tb1 : (b : Int) < K := by omega
        have tb2 : (b : Int).toNat = b := by simp
        have e1 : decide ((b : Int) < 0) = false := decide_eq_false (by omega)
        have e2 : decide ((K : Int) ≤ b) = false := decide_eq_false (by omega)
        have e2' : decide (K ≤ b) = false := decide_eq_false (by omega)
        have e3' : (pn == 0) = false := by have := PN.out; simp; omega
        have e3'' : ¬ pn = 0 := by have := PN.out; omega
        have e3 : ((pn : Int) == 0) = false := by have := PN.out; simp; omega
        have e4 : ((fn : Int) + (lb + (d : Int)) != 40) = false := by have := FR.out; simp; omega
        have e5 : (lb + (d : Int) != lb + (d : Int)) = false := by simp
        clear hcb hca
        go_upto_region 10 with fail
        (refine wp_region_bel w6.heap.size w6 (Below.refl _ _) (by kernel_rfl) (by kernel_rfl) ?_; simp only [List.append_eq, List.cons_append, List.nil_append]; (repeat (go_big_quiet_step ((first | (go_at_call 10; exact bel_same (C7.out _ (Bel.below _))))))); refine wpQuiet_nil ?_; rintro w7 ⟨⟨_, hb7⟩, rfl⟩)
        have RF7 := Lib.hid (RF6.out.next hb7)
        have B7 := Lib.hid (below_more B6.out hb7 (Nat.le_refl _))
        clear cb ca e1 e2 e2' e3 e3' e3'' e4 e5 C7 tb0 tb1 tb2 hb7 RF6 B6
        go_wp2_with fail
        go_loop [20] (fun kv => ∃ j : Nat, j ≤ d ∧ kv = .int .i64 (fr + j)) (fun kv => (fr + d - intOf kv).toNat)
        case atStart => exact ⟨0, Nat.zero_le _, by simp⟩
        case round =>
          obtain ⟨j, hj, rfl⟩ := hrel
          by_cases hlt : j < d
          · have CH := b10Has_any FA fc fn zf (fr + j) w7 RF7.out (by omega)
            rw [FN.out (fr + j) (by omega) (by omega)] at CH
            go_wp2_with ((go_at_call 11; refine (CH).mono ?_; rintro e w' ⟨rfl, rfl⟩))
            go_round
            case rel => exact ⟨j + 1, by omega, by go_num⟩
            case measure => simp [intOf]; omega
          · obtain rfl : j = d := by omega
            go_wp2_with fail
            go_meet
            exact B7
    · as_aux_lemma =>
        have e0 : (cd == 0) = false := by simpa using h0
        have nx0 := BN.out h0
        have k0 : K = 0 := by rw [HK.out, nx0]; rfl
        subst k0
        have W2 := Lib.hid (Below.refl w2.heap.size w2)
        clear BO BN h0 nx0
        go_wp2_with fail
        go_meet
        exact W2
  case rest =>
    have b3 := Lib.hid (below_more b2.out hcut.out (Nat.le_refl _))
    clear hcut b2 P2 Q2 BO BN HN HK PM bnb frb dyb wkb
    generalize wc = w3 at b3 ⊢
    go_wp2_with fail
    refine (DrawDropWork_any A1 c1 n1 bs1 w3 (H1.out.next b3.out) HB1.out nn1).mono ?_
    rintro r w4 ⟨v, rt, gn, rfl, ho, hd, gnb, hb⟩
    obtain ⟨TA, tc, rfl⟩ := own2_val ho
    have TM := hd.max
    have P4 := Lib.hid (ho.reads.all (Nat.le_refl _))
    have b4 := Lib.hid (below_more b3.out hb (Nat.le_refl _))
    clear ho hd hb b3
    have C2 := DropWork_i TA tc rt.length rt gn w4 P4.out TM.1 TM.2
    have DO := Lib.hid (drop_ok (rs := rt) (wk := gn))
    have DN := Lib.hid (drop_no (rs := rt) (wk := gn))
    obtain ⟨ny, hny⟩ : ∃ x, x = (DropWork_L rt gn).1 := ⟨_, rfl⟩
    obtain ⟨ce, hce⟩ : ∃ x, x = (DropWork_L rt gn).2 := ⟨_, rfl⟩
    rw [← hny, ← hce] at C2 DO
    rw [← hny, ← hce] at DN
    clear hny hce TM
    obtain ⟨M, hM⟩ : ∃ N, N = rt.length := ⟨_, rfl⟩
    rw [← hM] at C2 P4
    go_wp2_with fail
    rw [← hM]
    clear hM P4
    refine C2.mono ?_
    rintro r w5 ⟨v, rfl, ho, hb5⟩
    obtain ⟨UA, uc, rfl⟩ := own2_val ho
    obtain ⟨K2, hK2⟩ : ∃ K, K = ny.length := ⟨_, rfl⟩
    rw [← hK2] at ho ⊢
    have HK2 := Lib.hid hK2
    have Q5 := Lib.hid (ho.reads.all (Nat.le_refl _))
    have b5 := Lib.hid (below_more b4.out hb5 (Nat.le_refl _))
    clear ho hb5 C2 b4 hK2
    go_upto_if 182 with fail
    go_cut [23] (fun _ wz => Hid (Below w5.heap.size w5 wz))
    case first =>
      by_cases h0 : ce = 0
      · as_aux_lemma =>
          have e0 : (ce == 0) = true := by simpa using h0
          obtain ⟨D1, D2⟩ := DO.out h0
          have UM := planB_max D1
          subst h0
          have C3 := PartsOf_i UA uc K2 ny gn w5 Q5.out (by rw [HK2.out]; exact UM.1) UM.2
          rw [D2] at C3
          have C4 := Lib.hid (fun wz (h : Rd2 wz 0 wz.heap.size UA K2 ny) => ValidPlan_s UA uc K2 0 wz.heap.size ny wz h (by rw [HK2.out]; exact UM.1) UM.2)
          rw [D1] at C4
          have W5 := Lib.hid (Below.refl w5.heap.size w5)
          clear DO DN e0 D1 D2 UM gnb
          go_wp2_with fail
          refine C3.mono ?_
          rintro r w6 ⟨v, rfl, ho, hb6⟩
          have C4 := C4.out w6 (Q5.out.next hb6)
          have B6 := Lib.hid (below_more W5.out hb6 (Nat.le_refl _))
          clear ho hb6 C3 W5
          go_wp2_with ((go_at_call 10; refine (C4).mono ?_; rintro e w' ⟨rfl, rfl⟩))
          go_meet
          exact B6
      · as_aux_lemma =>
          have e0 : (ce == 0) = false := by simpa using h0
          have nx0 := DN.out h0
          have k0 : K2 = 0 := by rw [HK2.out, nx0]; rfl
          subst k0
          have W2 := Lib.hid (Below.refl w5.heap.size w5)
          clear DO DN h0 nx0
          go_wp2_with fail
          go_meet
          exact W2
    case rest =>
      have b6 := Lib.hid (below_more b5.out hcut.out (Nat.le_refl _))
      clear hcut b5 Q5 DO DN HK2 gnb
      generalize wc = w6 at b6 ⊢
      go_wp2_with fail
      refine (DrawFirstFree_any A0 c0 n0 bs0 w6 (H0.out.next b6.out) HB0.out nn0).mono ?_
      rintro r w7 ⟨v, rs3, dy3, fr3, rfl, ho, hd, dyb, frb, hb⟩
      obtain ⟨XA, xc, rfl⟩ := own2_val ho
      have XM := hd.max
      have P7 := Lib.hid (ho.reads.all (Nat.le_refl _))
      have b7 := Lib.hid (below_more b6.out hb (Nat.le_refl _))
      clear ho hd hb b6
      have C2 := FirstFree_i XA xc rs3.length rs3 dy3 fr3 w7 P7.out XM.1 XM.2
      obtain ⟨M3, hM3⟩ : ∃ N, N = rs3.length := ⟨_, rfl⟩
      rcases first_is rs3 dy3 fr3 with ⟨z1, z2, z3⟩ | ⟨day, row, z1, FS⟩
      · as_aux_lemma =>
          rw [← hM3] at C2
          obtain ⟨cf, hcf⟩ : ∃ x, x = (FirstFree_L rs3 dy3 fr3).2.2 := ⟨_, rfl⟩
          rw [← hcf] at C2 z1
          rw [z2, z3] at C2
          have e0 : (cf == 0) = false := by simpa using z1
          have e1 : (cf != 0) = true := by simpa using z1
          clear z1 z2 z3 hcf
          go_wp2_with fail
          rw [← hM3]
          clear hM3
          refine C2.mono ?_
          rintro r w8 ⟨rfl, hb8⟩
          have b8 := Lib.hid (below_more b7.out hb8 (Nat.le_refl _))
          clear hb8 C2
          go_wp2_with fail
          go_ret
          exact ⟨rfl, b8.out⟩
      · as_aux_lemma =>
          rw [z1] at C2
          have FS := Lib.hid FS
          have HM3 := Lib.hid hM3
          have XM := Lib.hid XM
          rw [← hM3] at C2 P7
          go_wp2_with fail
          rw [← hM3]
          clear hM3 z1
          refine C2.mono ?_
          rintro r w8 ⟨rfl, hb8⟩
          have b8 := Lib.hid (below_more b7.out hb8 (Nat.le_refl _))
          have P8 := Lib.hid (P7.out.next hb8)
          clear hb8 C2 b7 P7
          obtain ⟨m, rfl⟩ : ∃ m : Nat, dy3 = m := ⟨dy3.toNat, by have := FS.out.d1; omega⟩
          obtain ⟨f, rfl⟩ : ∃ f : Nat, fr3 = f := ⟨fr3.toNat, by have := FS.out.f0; omega⟩
          have m1 : 1 ≤ m := by have := FS.out.d1; omega
          have fd : f ≤ day := by have := FS.out.f1; omega
          have d40 := FS.out.d40
          have rM : row < M3 := by have := FS.out.r1; rw [← HM3.out] at this; exact this
          have fb := FS.out.free
          simp only [Int.toNat_natCast] at fb
          unfold freeB at fb
          rw [Bool.and_eq_true] at fb
          have dm : day + m ≤ 40 := by simpa using fb.1
          have ZR := Lib.hid (zeroTo_at fb.2)
          have M6 : M3 ≤ 6 := by have := (planB_t FS.out.plan).2.1; rw [← HM3.out] at this; exact this
          have R40 : Hid (∀ b, b < M3 → (rs3.getD b []).length = 40) := Lib.hid (fun b hb => ((planB_t FS.out.plan).2.2 _ (getR_mem (by rw [← HM3.out]; exact hb))).1)
          have FNN : Hid (∀ e b : Nat, f ≤ e → e < day → b < M3 → e + m ≤ 40 → zeroTo (rs3.getD b []) e m = false) := Lib.hid (fun e b h1 h2 h3 h4 => by
            have := FS.out.none_ e (by omega) (by omega) b (by rw [← HM3.out]; exact h3)
            simp only [Int.toNat_natCast] at this
            unfold freeB at this
            rw [decide_eq_true h4, Bool.true_and] at this
            exact this)
          have C7 := ValidPlan_s XA xc M3 0 w8.heap.size rs3 w8 P8.out (by rw [HM3.out]; exact XM.out.1) XM.out.2
          rw [FS.out.plan] at C7
          obtain ⟨pb, po, rfl, hpb, hpc⟩ := P8.out.at_ (by omega)
          have HPC : Hid (∀ b, b < M3 → ∃ (gb ob cb : Nat), w8.cell? ⟨pb, po + b, none⟩ = some (.slice (some ⟨gb, ob, none⟩) 40 cb) ∧ ∀ k, k < 40 → w8.cell? ⟨gb, ob + k, none⟩ = some (.int .i64 ((rs3.getD b []).getD k 0))) := Lib.hid (fun b hb => by
            obtain ⟨Ai, ci, h1, h2, _⟩ := hpc b _ (getR_at (by rw [← HM3.out]; exact hb))
            have r40 := R40.out b hb
            rw [r40] at h1 h2
            obtain ⟨gb, ob, rfl, _, hc⟩ := h2.1.ints (by omega)
            exact ⟨gb, ob, ci, h1, fun k hk => hc k _ (by rw [List.getElem?_eq_getElem (by omega), getZ_elem (by omega)])⟩)
          clear hpc fb frb dyb XM
          go_wp2_with ((go_at_call 10; refine (C7).mono ?_; rintro e w' ⟨rfl, rfl⟩))
          clear C7
          go_loop [33] (fun kv => ∃ j : Nat, j ≤ m ∧ kv = .int .i64 ((day : Int) + j)) (fun kv => ((day : Int) + m - intOf kv).toNat)
          case atStart => exact ⟨0, Nat.zero_le _, by simp⟩
          case round =>
            obtain ⟨j, hj, rfl⟩ := hrel
            by_cases hlt : j < m
            · obtain ⟨gb, ob, cb, h1, h2⟩ := HPC.out row rM
              have h2 := h2 (day + j) (by omega)
              rw [ZR.out j hlt] at h2
              have tn : ((day : Int) + (j : Int)).toNat = day + j := by omega
              go_wp2_with fail
              go_round
              case rel => exact ⟨j + 1, by omega, by go_num⟩
              case measure => simp [intOf]; omega
            · obtain rfl : m = j := by omega
              go_wp2_with fail
              go_loop [34] (fun dv => ∃ e : Nat, f ≤ e ∧ e ≤ day ∧ dv = .int .i64 e) (fun dv => day - (intOf dv).toNat)
              case atStart => exact ⟨f, Nat.le_refl _, fd, rfl⟩
              case round =>
                obtain ⟨e, hfe, hed, rfl⟩ := hrel
                by_cases hlt2 : e < day
                · have HE := Lib.hid hlt2
                  have ed : decide ((e : Int) < day) = true := decide_eq_true (by omega)
                  have ed' : decide (e < day) = true := decide_eq_true hlt2
                  have e39 : e ≤ 39 := by omega
                  go_wp2_with fail
                  go_loop [35] (fun bv => ∃ b : Nat, b ≤ M3 ∧ bv = .int .i64 b) (fun bv => M3 - (intOf bv).toNat)
                  case atStart => exact ⟨0, Nat.zero_le _, rfl⟩
                  case round =>
                    obtain ⟨b, hb, rfl⟩ := hrel
                    by_cases hlt3 : b < M3
                    · have HB := Lib.hid hlt3
                      obtain ⟨gb, ob, cb, h1, h2⟩ := HPC.out b hlt3
                      have H2 := Lib.hid h2
                      have FE := Lib.hid (FNN.out e b hfe hlt2 hlt3)
                      generalize rs3.getD b [] = r at H2 FE h2
                      clear h2
                      go_wp2_with fail
                      go_loop [37, 36] (fun kv uv => ∃ (j : Nat) (u : Bool), j ≤ m ∧ e + j ≤ 40 ∧ kv = .int .i64 ((e : Int) + j) ∧ uv = .bool u ∧ Hid (u = !zeroTo r e j)) (fun kv _ => ((e : Int) + m - intOf kv).toNat)
                      case atStart => exact ⟨0, false, Nat.zero_le _, by omega, by simp, rfl, Lib.hid rfl⟩
                      case round =>
                        obtain ⟨j, u, hj, hej, rfl, rfl, HU⟩ := hrel
                        by_cases l1 : j < m
                        · by_cases l2 : e + j < 40
                          · have l2' : (e : Int) + j < 40 := by omega
                            have tn : ((e : Int) + (j : Int)).toNat = e + j := by omega
                            have c2 := H2.out (e + j) l2
                            obtain ⟨z, hz⟩ : ∃ z, z = r.getD (e + j) 0 := ⟨_, rfl⟩
                            rw [← hz] at c2
                            have HZ := Lib.hid hz
                            clear hz
                            cases u
                            · by_cases z0 : z = 0
                              · have U2 : Hid (false = !zeroTo r e (j + 1)) := Lib.hid (by
                                  rw [zeroTo, ← HZ.out, z0, decide_eq_true (show (0 : Int) = 0 from rfl), Bool.and_true]; exact HU.out)
                                have zb : (z != 0) = false := by simpa using z0
                                subst z0
                                go_wp2_with fail
                                go_round
                                case rel => exact ⟨j + 1, false, by omega, by omega, by go_num, rfl, U2⟩
                                case measure => simp [intOf]; omega
                              · have U2 : Hid (true = !zeroTo r e (j + 1)) := Lib.hid (by
                                  rw [zeroTo, ← HZ.out, decide_eq_false z0, Bool.and_false]; rfl)
                                have zb : (z != 0) = true := by simpa using z0
                                go_wp2_with fail
                                go_round
                                case rel => exact ⟨j + 1, true, by omega, by omega, by go_num, rfl, U2⟩
                                case measure => simp [intOf]; omega
                            · have U2 : Hid (true = !zeroTo r e (j + 1)) := Lib.hid (by
                                have h := HU.out
                                cases q : zeroTo r e j
                                · rw [zeroTo, q, Bool.false_and]; rfl
                                · rw [q] at h; cases h)
                              go_wp2_with fail
                              go_round
                              case rel => exact ⟨j + 1, true, by omega, by omega, by go_num, rfl, U2⟩
                              case measure => simp [intOf]; omega
                          · have ej : e + j = 40 := by omega
                            have l2' : ¬ (e : Int) + j < 40 := by omega
                            have l3 : ¬ (e : Int) + m ≤ 40 := by omega
                            have l3' : decide ((e : Int) + m ≤ 40) = false := decide_eq_false l3
                            clear ej
                            cases u
                            · go_wp2_with fail
                              go_round
                              case rel => exact ⟨b + 1, by omega, by go_num⟩
                              case measure => have := HB.out; simp [intOf]; omega
                            · go_wp2_with fail
                              go_round
                              case rel => exact ⟨b + 1, by omega, by go_num⟩
                              case measure => have := HB.out; simp [intOf]; omega
                        · obtain rfl : m = j := by omega
                          obtain rfl : u = true := by rw [HU.out, FE.out hej]; rfl
                          go_wp2_with fail
                          go_round
                          case rel => exact ⟨b + 1, by omega, by go_num⟩
                          case measure => have := HB.out; simp [intOf]; omega
                    · obtain rfl : M3 = b := by omega
                      go_wp2_with fail
                      go_round
                      case rel => exact ⟨e + 1, by omega, by omega, by go_num⟩
                      case measure => simp [intOf]; omega
                · obtain rfl : day = e := by omega
                  go_wp2_with fail
                  go_ret
                  exact ⟨rfl, b8.out⟩
end Go.Proofs.Ytnfmnllkplpgeaa
