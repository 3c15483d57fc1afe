/- The settling of debts: the reference's. -/
import Derived.Test.YtednmmmnkcbpjaaDebtI
set_option linter.unusedVariables false
set_option linter.unusedSimpArgs false
namespace Go.Proofs.Ytednmmmnkcbpjaa
open Go.RowKit

theorem l00Min_is (a b z : Int) (h : z = if a < b then a else b) (w : World) :
    Calls Try.prog 44 #[.int .i64 a, .int .i64 b] w fun e w' => e = .returned (.int .i64 z) ∧ w = w' := by
  subst h
  by_cases h : a < b
  · rw [if_pos h]
    go_enter Try.func44, Try.ntmps44
    go_wp2
    go_ret
    exact ⟨rfl, rfl⟩
  · rw [if_neg h]
    go_enter Try.func44, Try.ntmps44
    go_wp2
    go_ret
    exact ⟨rfl, rfl⟩
theorem settleE_bad {ss : List ByteArray} {zs : List Int} {w w' : World} {d : Int} (h : debtC ss zs = d) (hd : ¬ d = 0) (hb : Below w.heap.size w w') : SettleE ss zs w (.returned (.tuple #[.slice none 0 0, .int .i64 d])) w' :=
  ⟨.slice none 0 0, [], by rw [h], fun e => absurd (h.symm.trans e) hd, fun _ => rfl, by simp, World.ownsRow_nil _ _ _ _, hb⟩
set_option maxRecDepth 100000 in
set_option maxHeartbeats 8000000 in
theorem SettleDebts_s (A : Option Addr) (b0 o0 c c' n m : Nat) (ss : List ByteArray) (zs : List Int) (w : World) (h : Rd w w.heap.size 1 A n (sv ss)) (h' : Rd w w.heap.size 1 (some ⟨b0, o0, none⟩) m (iv zs)) (hz : ∀ s ∈ ss, s.size ≤ maxLen) (hn : n ≤ 1048576) (hm : m ≤ 1048576) :
    Calls Try.prog 16 #[.slice A n c, .slice (some ⟨b0, o0, none⟩) m c'] w (SettleE ss zs w) := by
  have HN := Lib.hid h.lenS
  have HM := Lib.hid h'.len
  have H := Lib.hid h
  have H' := Lib.hid h'
  have HZ := Lib.hid hz
  clear h h' hz
  go_enter Try.func16, Try.ntmps16
  go_wp2
  go_loopw [7] (fun i wr => ∃ k : Nat, k ≤ n ∧ i = .int .i64 k ∧ Hid (ordTo nameB id ss k = true) ∧ Hid (Below w.heap.size w wr)) (fun i _ => n - (intOf i).toNat)
  case atStart => exact ⟨0, Nat.zero_le _, rfl, Lib.hid rfl, Lib.hid (Below.refl _ _)⟩
  case round =>
    obtain ⟨k, hk, rfl, hf, hb⟩ := hrel
    by_cases hlt : k < n
    · obtain ⟨x, hx, hxm⟩ := getD_of (l := ss) (i := k) (by rw [HN.out]; exact hlt)
      have zx := HZ.out x hxm
      have HX := Lib.hid hx
      obtain ⟨b, o, rfl, hbB, hc⟩ := (H.out.below hb.out).strs (by omega)
      have HC := Lib.hid hc
      have hsz := hb.out.size
      have c0 := bel_at (B := wr.heap.size) (W0 := wr) (hc k x hx) (by omega)
      have tk0 : (0 : Int) ≤ k := by omega
      have tk1 : (k : Int) < n := by omega
      have tk2 : (k : Int).toNat = k := by simp
      clear hc hx hxm
      cases hp : nameB x
      · have HF := Lib.hid (debtC_name (l := zs) (ordB_bad (p := nameB) (key := id) (k := k) (by rw [HN.out]; exact hlt) (ordAt_no HX.out hp)))
        have CN := Lib.hid (fun w => l01Name_is hp w zx)
        clear hp
        go_wp2_with fail
        (refine wp_region_bel wr.heap.size wr (Below.refl _ _) (by kernel_rfl) (by kernel_rfl) ?_; (repeat (go_big_quiet_step ((first | (go_at_call 41; exact bel_same (CN.out _)))))); refine wpQuiet_nil ?_; rintro w1 ⟨⟨_, hb2⟩, rfl⟩)
        have b2 := Lib.hid (below_more hb.out hb2 (Nat.le_refl _))
        go_wp2
        go_ret2
        exact settleE_bad HF.out (by decide) b2.out
      · have CN := Lib.hid (fun w => l01Name_is hp w zx)
        by_cases h0 : k = 0
        · have HF := Lib.hid (ordTo_next hf.out (h0 ▸ ordAt_zero (h0 ▸ HX.out) hp))
          have dk : decide ((0 : Int) < k) = false := by simp; omega
          have dk' : decide (0 < k) = false := by simp; omega
          clear hp h0
          go_wp2_with fail
          (refine wp_region_bel wr.heap.size wr (Below.refl _ _) (by kernel_rfl) (by kernel_rfl) ?_; (repeat (go_big_quiet_step ((first | (go_at_call 41; exact bel_same (CN.out _)))))); refine wpQuiet_nil ?_; rintro w1 ⟨⟨_, hb2⟩, rfl⟩)
          clear c0 tk2
          have b2 := Lib.hid (below_more hb.out hb2 (Nat.le_refl _))
          go_wp2
          go_roundw
          case rel => exact ⟨k + 1, by omega, by go_num, HF, b2⟩
          case measure => simp [intOf]; omega
        · obtain ⟨y, hy, hym⟩ := getD_of (l := ss) (i := k - 1) (by rw [HN.out]; omega)
          have HA := Lib.hid (ordAt_is (key := id) (by omega) HX.out hy hp)
          have d0 := bel_at (B := wr.heap.size) (W0 := wr) (HC.out (k - 1) y hy) (by omega)
          have e1 : IntKind.i64.wrap ((k : Int) - 1) = (k : Int) - 1 := IntWalk.i64_in _ (by omega)
          have e2 : ((k : Int) - 1).toNat = k - 1 := by omega
          have e3 : 1 ≤ (k : Int) := by omega
          have e4 : (k : Int) - 1 < n := by omega
          have dk : decide ((0 : Int) < k) = true := by simp; omega
          have dk' : decide (0 < k) = true := by simp; omega
          clear hp hy hym
          cases hl : lessB y x
          · have hl' : Op.bytesLess y.toList x.toList = false := hl
            have HF := Lib.hid (debtC_name (l := zs) (ordB_bad (p := nameB) (key := id) (k := k) (by rw [HN.out]; exact hlt) (HA.out.trans hl)))
            clear hl
            go_wp2_with fail
            (refine wp_region_bel wr.heap.size wr (Below.refl _ _) (by kernel_rfl) (by kernel_rfl) ?_; (repeat (go_big_quiet_step ((first | (go_at_call 41; exact bel_same (CN.out _)))))); refine wpQuiet_nil ?_; rintro w1 ⟨⟨_, hb2⟩, rfl⟩)
            have b2 := Lib.hid (below_more hb.out hb2 (Nat.le_refl _))
            go_wp2
            go_ret2
            exact settleE_bad HF.out (by decide) b2.out
          · have hl' : Op.bytesLess y.toList x.toList = true := hl
            have HF := Lib.hid (ordTo_next hf.out (HA.out.trans hl))
            clear hl
            go_wp2_with fail
            (refine wp_region_bel wr.heap.size wr (Below.refl _ _) (by kernel_rfl) (by kernel_rfl) ?_; (repeat (go_big_quiet_step ((first | (go_at_call 41; exact bel_same (CN.out _)))))); refine wpQuiet_nil ?_; rintro w1 ⟨⟨_, hb2⟩, rfl⟩)
            clear c0 tk2 d0 e1 e2 e3 e4
            have b2 := Lib.hid (below_more hb.out hb2 (Nat.le_refl _))
            go_wp2
            go_roundw
            case rel => exact ⟨k + 1, by omega, by go_num, HF, b2⟩
            case measure => simp [intOf]; omega
    · obtain rfl : n = k := by omega
      have NB : Hid (namesB ss = true) := Lib.hid (by unfold namesB; rw [HN.out]; exact hf.out)
      have H2 := Lib.hid (H.out.next hb.out)
      have H2' := Lib.hid (H'.out.next hb.out)
      have B2 := hb
      clear hb hf
      generalize wr = w2 at H2 H2' B2 ⊢
      go_wp2
      go_loop [8, 6] (fun i s => ∃ (j : Nat) (q : Int), j ≤ m ∧ i = .int .i64 j ∧ s = .int .i64 q ∧ (-10000000 * (j : Int) ≤ q ∧ q ≤ 10000000 * (j : Int)) ∧ Hid (q = smTo zs j) ∧ Hid (rangeTo zs j = true)) (fun i _ => m - (intOf i).toNat)
      case atStart => exact ⟨0, 0, Nat.zero_le _, rfl, rfl, by omega, Lib.hid rfl, Lib.hid rfl⟩
      case round =>
        obtain ⟨j, q, hj, rfl, rfl, hq, HS, HR⟩ := hrel
        by_cases hlt2 : j < m
        · obtain ⟨z, hz, hzm⟩ := getD_of (l := zs) (i := j) (by rw [HM.out]; exact hlt2)
          obtain ⟨b, o, e0, hbB, hc⟩ := H2'.out.ints (by omega)
          injection e0 with e0
          injection e0 with e1 e2
          subst e1 e2
          have c0 : w2.cell? ⟨b0, o0 + j, none⟩ = some (.int .i64 z) := hc j z hz
          have hd := getDz hz
          clear hc hz hzm
          cases hi : inB z (-10000000) 10000000
          · have HF := Lib.hid (debtC_range NB.out (rangeTo_bad (k := j) (by rw [HM.out]; exact hlt2) (by rw [hd]; exact hi)))
            go_wp2_with ((go_at_call 42; refine (l00In_any _ _ _ _).mono ?_; rintro e w' ⟨rfl, rfl⟩))
            go_ret2
            exact settleE_bad HF.out (by decide) B2.out
          · have zb := inB_t hi
            have HS2 : Hid (q + z = smTo zs (j + 1)) := Lib.hid (by rw [smTo, hd, HS.out])
            have HR2 := Lib.hid (rangeTo_next HR.out (by rw [hd]; exact hi))
            clear hd
            go_wp2_with ((go_at_call 42; refine (l00In_any _ _ _ _).mono ?_; rintro e w' ⟨rfl, rfl⟩))
            go_round
            case rel => exact ⟨j + 1, q + z, by omega, by go_num, by go_num, by omega, HS2, HR2⟩
            case measure => simp [intOf]; omega
        · obtain rfl : m = j := by omega
          have RB : Hid (rangeTo zs zs.length = true) := Lib.hid (by rw [HM.out]; exact HR.out)
          have SB : Hid (q = sm zs) := Lib.hid (by rw [HS.out, ← HM.out, smTo_all])
          by_cases e1 : n = m
          · subst e1
            by_cases e2 : 16 < n
            · have HF := Lib.hid (debtC_order NB.out RB.out (by rw [HN.out]; omega))
              have f1 : decide ((16 : Int) < n) = true := by simp; omega
              go_wp2
              go_ret2
              exact settleE_bad HF.out (by decide) B2.out
            · have f1 : decide ((16 : Int) < n) = false := by simp; omega
              by_cases e3 : q = 0
              · have HD := Lib.hid (debtC_ok NB.out RB.out (by rw [HN.out, HM.out]; omega) (by rw [← SB.out]; exact e3))
                subst e3
                have DS := Lib.hid (DebtS.start HD.out HM.out)
                have n16 : n ≤ 16 := by omega
                clear NB RB SB HS HR e2 hq hlt hlt2 hj hk
                clear f1
                go_wp2_with fail
                refine (l00Own_any b0 o0 c' n zs w2 H2'.out hn).mono ?_
                rintro r w3 ⟨v1, rfl, ho1, hb1⟩
                obtain ⟨LA, lc, rfl⟩ := ownE_val ho1
                have B3 := Lib.hid (below_more B2.out hb1 (Nat.le_refl _))
                have O3 := Lib.hid (ownE_low ho1 B2.out.size)
                have H3 := Lib.hid (H2.out.next hb1)
                clear ho1 hb1 B2 H2 H2'
                have O4 := Lib.hid (own_grow O3.out ((Below.refl w3.heap.size w3).alloc (Nat.le_refl _) (.cells #[] 64)))
                have E4 := Lib.hid (ownE_empty w3 64 4)
                have B4 := Lib.hid (B3.out.alloc B3.out.size (.cells #[] 64))
                have L12 := Lib.hid B3.out.size
                go_upto_region 19 with fail
                have GB : Hid (∀ q, (Value.slice LA n lc).ownBlock = some q → q < w3.heap.size) := Lib.hid fun q hq => (O3.out.lt q hq).2
                have S4 := Lib.hid ((Below.refl w3.heap.size w3).alloc (Nat.le_refl _) (.cells #[] 64)).size
                generalize w3.alloc (.cells #[] 64) = w4 at O4 E4 B4 S4 ⊢
                generalize w3.heap.size = L2 at E4 L12 GB S4 ⊢
                clear O3 B3 H3
                go_wp2_with fail
                go_loopw [10] (fun out wr => ∃ (l : List Int) (es : List EntryD) (j : Nat), j ≤ n ∧ Hid (slen out = j) ∧ Hid (es.length = j) ∧ Hid (DebtS ss zs l es n) ∧ Hid (wr.ownsRow w.heap.size 2 1 (.slice LA n lc) n (iv l)) ∧ Hid (wr.ownsRow L2 64 4 out j (es.flatMap entryF)) ∧ Hid (Below w.heap.size w wr) ∧ Hid (L2 ≤ wr.heap.size)) (fun out _ => n + 1 - slen out)
                case atStart => exact ⟨zs, [], 0, Nat.zero_le _, Lib.hid rfl, Lib.hid rfl, DS, O4, E4, B4, S4⟩
                case round =>
                  obtain ⟨l, es, j, hj, SJ, EJ, D, OL, OE, B, S⟩ := hrel
                  obtain ⟨OA, oc, rfl⟩ := ownE_val OE.out
                  generalize wr = wo at OL OE B S ⊢
                  go_wp2_with fail
                  go_loopw [13, 11, 12] (fun i a b wr => ∃ (k : Nat) (x y : Int), k ≤ n ∧ i = .int .i64 k ∧ a = .int .i64 x ∧ b = .int .i64 y ∧ (-1 ≤ x ∧ x < n) ∧ (-1 ≤ y ∧ y < n) ∧ Hid (x = sloTo l k) ∧ Hid (y = shiTo l k) ∧ Hid (Below wo.heap.size wo wr)) (fun i _ _ _ => n - (intOf i).toNat)
                  case atStart => exact ⟨0, -1, -1, Nat.zero_le _, rfl, rfl, rfl, by omega, by omega, Lib.hid rfl, Lib.hid rfl, Lib.hid (Below.refl _ _)⟩
                  case round =>
                    obtain ⟨k, x, y, hk, rfl, rfl, rfl, hx, hy, HX, HY, hb⟩ := hrel
                    by_cases hlt : k < n
                    · obtain ⟨g, rfl, hgL, hg⟩ := ownE_at OL.out (by omega)
                      have gw : g < wr.heap.size := by have := hb.out.size; omega
                      have CK := Lib.hid (ownE_cell (own_grow OL.out hb.out) D.out.len hlt)
                      obtain ⟨z, hz⟩ : ∃ z, z = l.getD k 0 := ⟨_, rfl⟩
                      rw [← hz] at CK
                      have HZ := Lib.hid hz
                      clear hz
                      obtain ⟨p1, hp1⟩ : ∃ p, p = decide (z < 0 ∧ (x < 0 ∨ z < l.getD x.toNat 0)) := ⟨_, rfl⟩
                      obtain ⟨p2, hp2⟩ : ∃ p, p = decide (0 < z ∧ (y < 0 ∨ l.getD y.toNat 0 < z)) := ⟨_, rfl⟩
                      have P1 := Lib.hid hp1
                      have P2 := Lib.hid hp2
                      clear hp1 hp2
                      have ck := bel_at (B := wr.heap.size) (W0 := wr) CK.out gw
                      have cx : 0 ≤ x → ∀ u : Bel wr.heap.size wr, u.val.cell? ⟨g, x.toNat, none⟩ = some (.int .i64 (l.getD x.toNat 0)) := fun h0 => bel_at (ownE_cell (own_grow OL.out hb.out) D.out.len (by omega)) gw
                      have hk0 : (0 : Int) ≤ k := by omega
                      have hki : (k : Int) < n := by omega
                      have tn : (k : Int).toNat = k := by simp
                      go_upto_region 24 with fail
                      go_cut [101] from 82 to 101 (fun c wz => c = .bool p1 ∧ Hid (Below wr.heap.size wr wz))
                      case first =>
                        by_cases g1 : z < 0
                        · by_cases g2 : x < 0
                          · have d1 : decide (z < 0) = true := decide_eq_true g1
                            have d2 : decide (x < 0) = true := decide_eq_true g2
                            obtain rfl : true = p1 := by rw [P1.out]; exact (decide_eq_true ⟨g1, .inl g2⟩).symm
                            clear cx
                            (refine wp_region_bel wr.heap.size wr (Below.refl _ _) (by kernel_rfl) (by kernel_rfl) ?_; (repeat (go_big_quiet_step ((first | fail)))); refine wpQuiet_nil ?_; rintro w9 ⟨⟨_, hb9⟩, rfl⟩)
                            go_wp2_with fail
                            go_meet
                            exact ⟨rfl, Lib.hid hb9⟩
                          · have d1 : decide (z < 0) = true := decide_eq_true g1
                            have d2 : decide (x < 0) = false := decide_eq_false g2
                            have x0 : 0 ≤ x := by omega
                            have cx' := cx x0
                            clear cx
                            by_cases g3 : z < l.getD x.toNat 0
                            · have d3 : decide (z < l.getD x.toNat 0) = true := decide_eq_true g3
                              obtain rfl : true = p1 := by rw [P1.out]; exact (decide_eq_true ⟨g1, .inr g3⟩).symm
                              generalize l.getD x.toNat 0 = zx at cx' d3
                              clear g3
                              (refine wp_region_bel wr.heap.size wr (Below.refl _ _) (by kernel_rfl) (by kernel_rfl) ?_; (repeat (go_big_quiet_step ((first | fail)))); refine wpQuiet_nil ?_; rintro w9 ⟨⟨_, hb9⟩, rfl⟩)
                              go_wp2_with fail
                              go_meet
                              exact ⟨rfl, Lib.hid hb9⟩
                            · have d3 : decide (z < l.getD x.toNat 0) = false := decide_eq_false g3
                              obtain rfl : false = p1 := by rw [P1.out]; exact (decide_eq_false (fun h => h.2.elim g2 g3)).symm
                              generalize l.getD x.toNat 0 = zx at cx' d3
                              clear g3
                              (refine wp_region_bel wr.heap.size wr (Below.refl _ _) (by kernel_rfl) (by kernel_rfl) ?_; (repeat (go_big_quiet_step ((first | fail)))); refine wpQuiet_nil ?_; rintro w9 ⟨⟨_, hb9⟩, rfl⟩)
                              go_wp2_with fail
                              go_meet
                              exact ⟨rfl, Lib.hid hb9⟩
                        · have d1 : decide (z < 0) = false := decide_eq_false g1
                          obtain rfl : false = p1 := by rw [P1.out]; exact (decide_eq_false (fun h => g1 h.1)).symm
                          clear cx
                          (refine wp_region_bel wr.heap.size wr (Below.refl _ _) (by kernel_rfl) (by kernel_rfl) ?_; (repeat (go_big_quiet_step ((first | fail)))); refine wpQuiet_nil ?_; rintro w9 ⟨⟨_, hb9⟩, rfl⟩)
                          go_wp2_with fail
                          go_meet
                          exact ⟨rfl, Lib.hid hb9⟩
                      case rest =>
                        obtain ⟨rfl, hbz⟩ := hcut
                        generalize wc = wz at hbz ⊢
                        have gz : g < wz.heap.size := by have := hbz.out.size; omega
                        have CK2 := Lib.hid ((hbz.out.cell (p := ⟨g, k, none⟩) gw).trans CK.out)
                        clear ck cx
                        cases p1
                        · have E1 : Hid (x = sloTo l (k + 1)) := Lib.hid (by rw [sloTo, ← HX.out, ← HZ.out, if_neg (of_decide_eq_false P1.out.symm)])
                          go_upto_region 26 with fail
                          have ck2 := bel_at (B := wz.heap.size) (W0 := wz) CK2.out gz
                          have cy2 : 0 ≤ y → ∀ u : Bel wz.heap.size wz, u.val.cell? ⟨g, y.toNat, none⟩ = some (.int .i64 (l.getD y.toNat 0)) := fun h0 => bel_at (ownE_cell (own_grow (own_grow OL.out hb.out) hbz.out) D.out.len (by omega)) gz
                          go_cut [122] from 103 to 122 (fun c wq => c = .bool p2 ∧ Hid (Below wz.heap.size wz wq))
                          case first =>
                            by_cases g1 : 0 < z
                            · by_cases g2 : y < 0
                              · have d1 : decide (0 < z) = true := decide_eq_true g1
                                have d2 : decide (y < 0) = true := decide_eq_true g2
                                obtain rfl : true = p2 := by rw [P2.out]; exact (decide_eq_true ⟨g1, .inl g2⟩).symm
                                clear cy2
                                (refine wp_region_bel wz.heap.size wz (Below.refl _ _) (by kernel_rfl) (by kernel_rfl) ?_; (repeat (go_big_quiet_step ((first | fail)))); refine wpQuiet_nil ?_; rintro w9 ⟨⟨_, hb9⟩, rfl⟩)
                                go_wp2_with fail
                                go_meet
                                exact ⟨rfl, Lib.hid hb9⟩
                              · have d1 : decide (0 < z) = true := decide_eq_true g1
                                have d2 : decide (y < 0) = false := decide_eq_false g2
                                have y0 : 0 ≤ y := by omega
                                have cy3 := cy2 y0
                                clear cy2
                                by_cases g3 : l.getD y.toNat 0 < z
                                · have d3 : decide (l.getD y.toNat 0 < z) = true := decide_eq_true g3
                                  obtain rfl : true = p2 := by rw [P2.out]; exact (decide_eq_true ⟨g1, .inr g3⟩).symm
                                  generalize l.getD y.toNat 0 = zy at cy3 d3
                                  clear g3
                                  (refine wp_region_bel wz.heap.size wz (Below.refl _ _) (by kernel_rfl) (by kernel_rfl) ?_; (repeat (go_big_quiet_step ((first | fail)))); refine wpQuiet_nil ?_; rintro w9 ⟨⟨_, hb9⟩, rfl⟩)
                                  go_wp2_with fail
                                  go_meet
                                  exact ⟨rfl, Lib.hid hb9⟩
                                · have d3 : decide (l.getD y.toNat 0 < z) = false := decide_eq_false g3
                                  obtain rfl : false = p2 := by rw [P2.out]; exact (decide_eq_false (fun h => h.2.elim g2 g3)).symm
                                  generalize l.getD y.toNat 0 = zy at cy3 d3
                                  clear g3
                                  (refine wp_region_bel wz.heap.size wz (Below.refl _ _) (by kernel_rfl) (by kernel_rfl) ?_; (repeat (go_big_quiet_step ((first | fail)))); refine wpQuiet_nil ?_; rintro w9 ⟨⟨_, hb9⟩, rfl⟩)
                                  go_wp2_with fail
                                  go_meet
                                  exact ⟨rfl, Lib.hid hb9⟩
                            · have d1 : decide (0 < z) = false := decide_eq_false g1
                              obtain rfl : false = p2 := by rw [P2.out]; exact (decide_eq_false (fun h => g1 h.1)).symm
                              clear cy2
                              (refine wp_region_bel wz.heap.size wz (Below.refl _ _) (by kernel_rfl) (by kernel_rfl) ?_; (repeat (go_big_quiet_step ((first | fail)))); refine wpQuiet_nil ?_; rintro w9 ⟨⟨_, hb9⟩, rfl⟩)
                              go_wp2_with fail
                              go_meet
                              exact ⟨rfl, Lib.hid hb9⟩
                          case rest =>
                            obtain ⟨rfl, hbq⟩ := hcut
                            have B9 := Lib.hid (below_more hb.out (below_more hbz.out hbq.out (Nat.le_refl _)) (Nat.le_refl _))
                            clear ck2 cy2
                            cases p2
                            · have E2 : Hid (y = shiTo l (k + 1)) := Lib.hid (by rw [shiTo, ← HY.out, ← HZ.out, if_neg (of_decide_eq_false P2.out.symm)])
                              go_wp2_with fail
                              go_roundw
                              case rel => exact ⟨k + 1, x, y, by omega, by go_num, rfl, rfl, by omega, by omega, E1, E2, B9⟩
                              case measure => simp [intOf]; omega
                            · have E2 : Hid ((k : Int) = shiTo l (k + 1)) := Lib.hid (by rw [shiTo, ← HY.out, ← HZ.out, if_pos (of_decide_eq_true P2.out.symm)])
                              go_wp2_with fail
                              go_roundw
                              case rel => exact ⟨k + 1, x, k, by omega, by go_num, rfl, rfl, by omega, by omega, E1, E2, B9⟩
                              case measure => simp [intOf]; omega
                        · have E1 : Hid ((k : Int) = sloTo l (k + 1)) := Lib.hid (by rw [sloTo, ← HX.out, ← HZ.out, if_pos (of_decide_eq_true P1.out.symm)])
                          go_upto_region 26 with fail
                          have ck2 := bel_at (B := wz.heap.size) (W0 := wz) CK2.out gz
                          have cy2 : 0 ≤ y → ∀ u : Bel wz.heap.size wz, u.val.cell? ⟨g, y.toNat, none⟩ = some (.int .i64 (l.getD y.toNat 0)) := fun h0 => bel_at (ownE_cell (own_grow (own_grow OL.out hb.out) hbz.out) D.out.len (by omega)) gz
                          go_cut [122] from 103 to 122 (fun c wq => c = .bool p2 ∧ Hid (Below wz.heap.size wz wq))
                          case first =>
                            by_cases g1 : 0 < z
                            · by_cases g2 : y < 0
                              · have d1 : decide (0 < z) = true := decide_eq_true g1
                                have d2 : decide (y < 0) = true := decide_eq_true g2
                                obtain rfl : true = p2 := by rw [P2.out]; exact (decide_eq_true ⟨g1, .inl g2⟩).symm
                                clear cy2
                                (refine wp_region_bel wz.heap.size wz (Below.refl _ _) (by kernel_rfl) (by kernel_rfl) ?_; (repeat (go_big_quiet_step ((first | fail)))); refine wpQuiet_nil ?_; rintro w9 ⟨⟨_, hb9⟩, rfl⟩)
                                go_wp2_with fail
                                go_meet
                                exact ⟨rfl, Lib.hid hb9⟩
                              · have d1 : decide (0 < z) = true := decide_eq_true g1
                                have d2 : decide (y < 0) = false := decide_eq_false g2
                                have y0 : 0 ≤ y := by omega
                                have cy3 := cy2 y0
                                clear cy2
                                by_cases g3 : l.getD y.toNat 0 < z
                                · have d3 : decide (l.getD y.toNat 0 < z) = true := decide_eq_true g3
                                  obtain rfl : true = p2 := by rw [P2.out]; exact (decide_eq_true ⟨g1, .inr g3⟩).symm
                                  generalize l.getD y.toNat 0 = zy at cy3 d3
                                  clear g3
                                  (refine wp_region_bel wz.heap.size wz (Below.refl _ _) (by kernel_rfl) (by kernel_rfl) ?_; (repeat (go_big_quiet_step ((first | fail)))); refine wpQuiet_nil ?_; rintro w9 ⟨⟨_, hb9⟩, rfl⟩)
                                  go_wp2_with fail
                                  go_meet
                                  exact ⟨rfl, Lib.hid hb9⟩
                                · have d3 : decide (l.getD y.toNat 0 < z) = false := decide_eq_false g3
                                  obtain rfl : false = p2 := by rw [P2.out]; exact (decide_eq_false (fun h => h.2.elim g2 g3)).symm
                                  generalize l.getD y.toNat 0 = zy at cy3 d3
                                  clear g3
                                  (refine wp_region_bel wz.heap.size wz (Below.refl _ _) (by kernel_rfl) (by kernel_rfl) ?_; (repeat (go_big_quiet_step ((first | fail)))); refine wpQuiet_nil ?_; rintro w9 ⟨⟨_, hb9⟩, rfl⟩)
                                  go_wp2_with fail
                                  go_meet
                                  exact ⟨rfl, Lib.hid hb9⟩
                            · have d1 : decide (0 < z) = false := decide_eq_false g1
                              obtain rfl : false = p2 := by rw [P2.out]; exact (decide_eq_false (fun h => g1 h.1)).symm
                              clear cy2
                              (refine wp_region_bel wz.heap.size wz (Below.refl _ _) (by kernel_rfl) (by kernel_rfl) ?_; (repeat (go_big_quiet_step ((first | fail)))); refine wpQuiet_nil ?_; rintro w9 ⟨⟨_, hb9⟩, rfl⟩)
                              go_wp2_with fail
                              go_meet
                              exact ⟨rfl, Lib.hid hb9⟩
                          case rest =>
                            obtain ⟨rfl, hbq⟩ := hcut
                            have B9 := Lib.hid (below_more hb.out (below_more hbz.out hbq.out (Nat.le_refl _)) (Nat.le_refl _))
                            clear ck2 cy2
                            cases p2
                            · have E2 : Hid (y = shiTo l (k + 1)) := Lib.hid (by rw [shiTo, ← HY.out, ← HZ.out, if_neg (of_decide_eq_false P2.out.symm)])
                              go_wp2_with fail
                              go_roundw
                              case rel => exact ⟨k + 1, k, y, by omega, by go_num, rfl, rfl, by omega, by omega, E1, E2, B9⟩
                              case measure => simp [intOf]; omega
                            · have E2 : Hid ((k : Int) = shiTo l (k + 1)) := Lib.hid (by rw [shiTo, ← HY.out, ← HZ.out, if_pos (of_decide_eq_true P2.out.symm)])
                              go_wp2_with fail
                              go_roundw
                              case rel => exact ⟨k + 1, k, k, by omega, by go_num, rfl, rfl, by omega, by omega, E1, E2, B9⟩
                              case measure => simp [intOf]; omega
                    · obtain rfl : n = k := by omega
                      have D0 := D.out.len
                      rw [← D0, slo_is] at HX
                      rw [← D0, shi_is] at HY
                      rw [D0] at HX HY
                      have OL := Lib.hid (own_grow OL.out hb.out)
                      have OE := Lib.hid (own_grow OE.out hb.out)
                      have B := Lib.hid (below_more B.out hb.out (Nat.le_refl _))
                      have S := Lib.hid (Nat.le_trans S.out hb.out.size)
                      clear hb hlt D0
                      generalize wr = wi at OL OE B S ⊢
                      rcases debt_two D.out.zero with ⟨z1, z2⟩ | ⟨z1, z2⟩
                      · have n0 : 0 < n := by
                          rcases Nat.eq_zero_or_pos n with e | e
                          · have hl : l = [] := List.length_eq_zero_iff.1 (by rw [D.out.len, e])
                            rw [hl] at z1
                            simp at z1
                          · exact e
                        have x1 : x = (lo l : Int) := by
                          have z := z1
                          unfold lo at z ⊢
                          rw [D.out.len] at z ⊢
                          rw [HX.out, if_pos ⟨n0, z⟩]
                        have y1 : y = (hi l : Int) := by
                          have z := z2
                          unfold hi at z ⊢
                          rw [D.out.len] at z ⊢
                          rw [HY.out, if_pos ⟨n0, z⟩]
                        clear HX HY
                        obtain ⟨X, hX⟩ : ∃ X, X = lo l := ⟨_, rfl⟩
                        obtain ⟨Y, hY⟩ : ∃ Y, Y = hi l := ⟨_, rfl⟩
                        rw [← hX] at x1 z1
                        rw [← hY] at y1 z2
                        subst x1 y1
                        have EX := Lib.hid hX
                        have EY := Lib.hid hY
                        clear hX hY
                        have hXn : X < n := by omega
                        have hYn : Y < n := by omega
                        obtain ⟨g, rfl, hgL, hg⟩ := ownE_at OL.out n0
                        have gL2 := GB.out g rfl
                        have c1 := bel_at (B := wi.heap.size) (W0 := wi) (ownE_cell OL.out D.out.len hXn) hg
                        have c2 := bel_at (B := wi.heap.size) (W0 := wi) (ownE_cell OL.out D.out.len hYn) hg
                        have bx := D.out.bound X
                        have by' := D.out.bound Y
                        have AM : Hid (∀ z, (if - l.getD X 0 < l.getD Y 0 then - l.getD X 0 else l.getD Y 0) = z → z = amt l) := Lib.hid fun z e => by
                          unfold amt; rw [← EX.out, ← EY.out]; exact e.symm
                        have hx0 : (0 : Int) ≤ X := by omega
                        have hy0 : (0 : Int) ≤ Y := by omega
                        have hxn : (X : Int) < n := by omega
                        have hyn : (Y : Int) < n := by omega
                        have tx : (X : Int).toNat = X := by simp
                        have ty : (Y : Int).toNat = Y := by simp
                        have dx : decide ((X : Int) < 0) = false := decide_eq_false (by omega)
                        have dy : decide ((Y : Int) < 0) = false := decide_eq_false (by omega)
                        obtain ⟨zx, hzx⟩ : ∃ z, z = l.getD X 0 := ⟨_, rfl⟩
                        obtain ⟨zy, hzy⟩ : ∃ z, z = l.getD Y 0 := ⟨_, rfl⟩
                        rw [← hzx] at c1 bx z1 AM
                        rw [← hzy] at c2 by' z2 AM
                        have ZX := Lib.hid hzx
                        have ZY := Lib.hid hzy
                        clear hzx hzy hx hy
                        have en : IntKind.i64.wrap (-zx) = -zx := IntWalk.i64_in _ (by omega)
                        obtain ⟨am, ham⟩ : ∃ z, z = if -zx < zy then -zx else zy := ⟨_, rfl⟩
                        have AM := Lib.hid (AM.out am ham.symm)
                        have CM := Lib.hid (fun w => l00Min_is (-zx) zy am ham w)
                        have ap : 0 < am ∧ am ≤ -zx ∧ am ≤ zy := by rw [ham]; split <;> omega
                        clear ham
                        go_upto_region 30 with fail
                        (refine wp_region_bel wi.heap.size wi (Below.refl _ _) (by kernel_rfl) (by kernel_rfl) ?_; (repeat (go_big_quiet_step ((first | (go_at_call 44; exact bel_same (CM.out _)))))); refine wpQuiet_nil ?_; rintro w5 ⟨⟨_, hb5⟩, rfl⟩)
                        clear c1 c2 en CM
                        have NX := Lib.hid (D.out.next ⟨by rw [← EX.out, ← ZX.out]; exact z1, by rw [← EY.out, ← ZY.out]; exact z2⟩ ⟨by rw [← EX.out]; exact hXn, by rw [← EY.out]; exact hYn⟩)
                        have hne : X ≠ Y := by intro e; rw [ZX.out, e, ← ZY.out] at z1; omega
                        have ED : Hid (entD ss l = ⟨0, nmD ss X, nmD ss Y, am⟩) := Lib.hid (by unfold entD; rw [← EX.out, ← EY.out, ← AM.out])
                        have SP : Hid (stepL l = (l.set X (zx + am)).set Y (zy - am)) := Lib.hid (by unfold stepL; rw [← EX.out, ← EY.out, ← AM.out, ← ZX.out, ← ZY.out])
                        have OL6 := Lib.hid (own_grow OL.out hb5)
                        have OE6 := Lib.hid (own_grow OE.out hb5)
                        have B6 := Lib.hid (below_more B.out hb5 (Nat.le_refl _))
                        have S6 := Lib.hid (Nat.le_trans S.out hb5.size)
                        clear hb5 OL OE B S
                        have c1 := ownE_cell OL6.out D.out.len hXn
                        have f1 := OL6.out.frozenAt X
                        have e1 : l.getD X 0 = zx := ZX.out.symm
                        rw [e1] at c1
                        clear e1
                        have OL7 := (OL6.out.stored X (.int .i64 (zx + am))).1
                        rw [← ivE_set] at OL7
                        have OL7 := Lib.hid OL7
                        have OE7 := Lib.hid (ownE_far OE6.out (p := ⟨g, X, none⟩) gL2 (.int .i64 (zx + am)))
                        have B7 := Lib.hid (B6.out.setCell (p := ⟨g, X, none⟩) hgL (.int .i64 (zx + am)))
                        have S7 : Hid (L2 ≤ (w5.setCell ⟨g, X, none⟩ (.int .i64 (zx + am))).heap.size) := Lib.hid (by have := S6.out; simpa using this)
                        clear OL6 OE6 B6 S6
                        go_upto_region 32 with fail
                        generalize w5.setCell ⟨g, X, none⟩ (.int .i64 (zx + am)) = w7 at OL7 OE7 B7 S7 ⊢
                        clear c1 f1
                        have c2 := ownE_cell OL7.out (by rw [List.length_set]; exact D.out.len) hYn
                        have f2 := OL7.out.frozenAt Y
                        rw [getD_setN hne] at c2
                        have e2 : l.getD Y 0 = zy := ZY.out.symm
                        rw [e2] at c2
                        clear e2
                        have OL8 := (OL7.out.stored Y (.int .i64 (zy - am))).1
                        rw [← ivE_set, ← SP.out] at OL8
                        have OL8 := Lib.hid OL8
                        have OE8 := Lib.hid (ownE_far OE7.out (p := ⟨g, Y, none⟩) gL2 (.int .i64 (zy - am)))
                        have B8 := Lib.hid (B7.out.setCell (p := ⟨g, Y, none⟩) hgL (.int .i64 (zy - am)))
                        have S8 : Hid (L2 ≤ (w7.setCell ⟨g, Y, none⟩ (.int .i64 (zy - am))).heap.size) := Lib.hid (by have := S7.out; simpa using this)
                        clear OL7 OE7 B7 S7
                        go_upto_region 33 with fail
                        generalize w7.setCell ⟨g, Y, none⟩ (.int .i64 (zy - am)) = w8 at OL8 OE8 B8 S8 ⊢
                        clear c2 f2
                        obtain ⟨nb, no, rfl, hnb, hnc⟩ := H.out.strs n0
                        have s1 := (B8.out.cell (p := ⟨nb, no + X, none⟩) hnb).trans (hnc X (nmD ss X) (nmD_at (by rw [HN.out]; exact hXn)))
                        have s2 := (B8.out.cell (p := ⟨nb, no + Y, none⟩) hnb).trans (hnc Y (nmD ss Y) (nmD_at (by rw [HN.out]; exact hYn)))
                        clear hnc
                        refine wp_region_S (S2c nb (no + X) (.string (nmD ss X)) nb (no + Y) (.string (nmD ss Y))) 10 (by kernel_rfl) ?_
                        have OL := Lib.hid OL8.out.drew
                        have OE := Lib.hid OE8.out.drew
                        have B := Lib.hid (below_drew B8.out)
                        have S : Hid (L2 ≤ w8.drew.heap.size) := S8
                        have s1 : w8.drew.cell? ⟨nb, no + X, none⟩ = some (.string (nmD ss X)) := s1
                        have s2 : w8.drew.cell? ⟨nb, no + Y, none⟩ = some (.string (nmD ss Y)) := s2
                        clear OL8 OE8 B8 S8
                        generalize w8.drew = w9 at OL OE B S s1 s2 ⊢
                        have HS : S2c nb (no + X) (.string (nmD ss X)) nb (no + Y) (.string (nmD ss Y)) w9 := ⟨s1, s2, trivial⟩
                        (refine wpAnyS_take0 0 ?_ rfl (by kernel_rfl) (by kernel_rfl) (by kernel_rfl) (by kernel_rfl) (fun _ _ _ h => h) (by rfl) ?_ (fun _ => HS) ?_; rotate_left; (· (intro w; go_simp; (try with_reducible rfl))); try simp only [Act.put, List.setIfInBounds_toArray, List.set_cons_zero, List.set_cons_succ])
                        (refine wpAnyS_take0 1 ?_ rfl (by kernel_rfl) (by kernel_rfl) (by kernel_rfl) (by kernel_rfl) (fun _ _ _ h => h) (by rfl) ?_ (fun _ => HS) ?_; rotate_left; (· (intro w; go_simp; (try with_reducible rfl))); try simp only [Act.put, List.setIfInBounds_toArray, List.set_cons_zero, List.set_cons_succ])
                        (refine wpAnyS_take0 2 ?_ rfl (by kernel_rfl) (by kernel_rfl) (by kernel_rfl) (by kernel_rfl) (fun _ _ _ h => h) (by rfl) ?_ (fun _ => HS) ?_; rotate_left; (· (intro w; go_simp; (try with_reducible rfl))); try simp only [Act.put, List.setIfInBounds_toArray, List.set_cons_zero, List.set_cons_succ])
                        (refine wpAnyS_take0 3 ?_ rfl (by kernel_rfl) (by kernel_rfl) (by kernel_rfl) (by kernel_rfl) (fun _ _ _ h => h) (by rfl) ?_ (fun _ => HS) ?_; rotate_left; (· (intro w; go_simp; (try with_reducible rfl))); try simp only [Act.put, List.setIfInBounds_toArray, List.set_cons_zero, List.set_cons_succ])
                        (refine wpAnyS_take 4 ?_ rfl (by kernel_rfl) (by kernel_rfl) (by kernel_rfl) (by kernel_rfl) (by kernel_rfl) (by kernel_rfl) (fun _ _ _ h => h) (by rfl) ?_ HS ?_; rotate_left; (· (intro w hSw; obtain ⟨s1, s2, s3⟩ := hSw; go_simp; (try with_reducible rfl))); try simp only [Act.put, List.setIfInBounds_toArray, List.set_cons_zero, List.set_cons_succ])
                        (refine wpAnyS_take0 5 ?_ rfl (by kernel_rfl) (by kernel_rfl) (by kernel_rfl) (by kernel_rfl) (fun _ _ _ h => h) (by rfl) ?_ (fun _ => HS) ?_; rotate_left; (· (intro w; go_simp; (try with_reducible rfl))); try simp only [Act.put, List.setIfInBounds_toArray, List.set_cons_zero, List.set_cons_succ])
                        (refine wpAnyS_take0 6 ?_ rfl (by kernel_rfl) (by kernel_rfl) (by kernel_rfl) (by kernel_rfl) (fun _ _ _ h => h) (by rfl) ?_ (fun _ => HS) ?_; rotate_left; (· (intro w; go_simp; (try with_reducible rfl))); try simp only [Act.put, List.setIfInBounds_toArray, List.set_cons_zero, List.set_cons_succ])
                        (refine wpAnyS_take0 7 ?_ rfl (by kernel_rfl) (by kernel_rfl) (by kernel_rfl) (by kernel_rfl) (fun _ _ _ h => h) (by rfl) ?_ (fun _ => HS) ?_; rotate_left; (· (intro w; go_simp; (try with_reducible rfl))); try simp only [Act.put, List.setIfInBounds_toArray, List.set_cons_zero, List.set_cons_succ])
                        (refine wpAnyS_take 8 ?_ rfl (by kernel_rfl) (by kernel_rfl) (by kernel_rfl) (by kernel_rfl) (by kernel_rfl) (by kernel_rfl) (fun _ _ _ h => h) (by rfl) ?_ HS ?_; rotate_left; (· (intro w hSw; obtain ⟨s1, s2, s3⟩ := hSw; go_simp; (try with_reducible rfl))); try simp only [Act.put, List.setIfInBounds_toArray, List.set_cons_zero, List.set_cons_succ])
                        (refine wpAnyS_take0 9 ?_ rfl (by kernel_rfl) (by kernel_rfl) (by kernel_rfl) (by kernel_rfl) (fun _ _ _ h => h) (by rfl) ?_ (fun _ => HS) ?_; rotate_left; (· (intro w; go_simp; (try with_reducible rfl))); try simp only [Act.put, List.setIfInBounds_toArray, List.set_cons_zero, List.set_cons_succ])
                        refine wpAnyS_one 10 rfl (by kernel_rfl) (by rfl) ?_
                        intro K hK
                        go_simp
                        refine hK _ _ (fun h => absurd h (by decide +kernel)) ?_
                        clear hK
                        refine wpAnyS_one 11 rfl (by kernel_rfl) (by rfl) ?_
                        intro K hK
                        go_simp
                        refine hK _ _ (fun h => absurd h (by decide +kernel)) ?_
                        clear hK HS s1 s2
                        have hal := (Below.refl w9.heap.size w9).alloc (Nat.le_refl _) (.cells #[.int .i64 0, .string (nmD ss X), .string (nmD ss Y), .int .i64 am] 64)
                        have OL5 := Lib.hid (own_grow OL.out hal)
                        have OE5 := Lib.hid (own_grow OE.out hal)
                        have B5 := Lib.hid (below_more B.out hal (Nat.le_refl _))
                        have K5 := Lib.hid (Blk.new w9 64 #[.int .i64 0, .string (nmD ss X), .string (nmD ss Y), .int .i64 am])
                        have S5 := Lib.hid (Nat.le_trans S.out hal.size)
                        clear hal OL OE B
                        generalize w9.alloc (.cells #[.int .i64 0, .string (nmD ss X), .string (nmD ss Y), .int .i64 am] 64) = w10 at OL5 OE5 B5 K5 S5 ⊢
                        refine wpAnyS_one 12 rfl (by kernel_rfl) (by rfl) ?_
                        intro K hK
                        refine stepE (.tmp 155) (.tmp 166) rfl L2 (.slice OA j oc) j es 0 (nmD ss X) (nmD ss Y) am rfl OE5.out w9.heap.size rfl K5.out S5.out (by omega) ?_
                        intro q cap w11 o6 g6
                        try simp only [Act.put, List.setIfInBounds_toArray, List.set_cons_zero, List.set_cons_succ]
                        refine hK _ _ (fun h => absurd h (by decide +kernel)) ?_
                        clear hK
                        have OL6 := Lib.hid (ownE_grown OL5.out g6 (fun p hp => by
                          intro e
                          have := (OE5.out.lt p e).1
                          have := GB.out p hp
                          omega))
                        have B6 := Lib.hid (B5.out.grown g6 B5.out.size (fun p hp => by have := (OE5.out.lt p hp).1; have := L12.out; omega))
                        rw [← ED.out] at o6
                        have OE6 := Lib.hid o6
                        have S6 := Lib.hid (Nat.le_trans S5.out g6.size)
                        clear OL5 OE5 B5 K5 S5 o6 g6
                        refine wpAnyS_one 13 rfl (by kernel_rfl) (by rfl) ?_
                        intro K hK
                        go_simp
                        refine hK _ _ (fun h => absurd h (by decide +kernel)) ?_
                        clear hK
                        refine wpAnyS_done (by kernel_rfl) ?_
                        have EJ8 : Hid ((es ++ [entD ss l]).length = j + 1) := Lib.hid (by simp [EJ.out])
                        have jn : j + 1 ≤ n := by have := NX.out.room; rw [EJ8.out] at this; omega
                        go_wp2_with fail
                        go_roundw
                        case rel => exact ⟨stepL l, es ++ [entD ss l], j + 1, jn, Lib.hid rfl, EJ8, NX, OL6, OE6, B6, S6⟩
                        case measure => simp [slen]; omega
                      · have x1 : x = -1 := by
                          rw [HX.out, if_neg]; unfold lo at z1; rw [D.out.len] at z1; omega
                        have y1 : y = -1 := by
                          rw [HY.out, if_neg]; unfold hi at z2; rw [D.out.len] at z2; omega
                        subst x1 y1
                        have ST : Hid (Settles ss zs es) := Lib.hid (by
                          have := D.out.law [] (.stop ⟨z1, z2⟩)
                          rw [List.append_nil] at this
                          exact this)
                        go_wp2_with fail
                        go_ret2
                        exact ⟨.slice OA j oc, es, by rw [HD.out]; rfl, fun _ => ST.out, fun h => absurd HD.out h, by rw [EJ.out]; omega, by rw [EJ.out]; exact ownE_low OE.out L12.out, B.out⟩
              · have HF := Lib.hid (debtC_state NB.out RB.out (by rw [HN.out, HM.out]; omega) (by rw [← SB.out]; exact e3))
                have e4 : (q == 0) = false := by simp; exact e3
                have e5 : (q != 0) = true := by simp; exact e3
                go_wp2
                go_ret2
                exact settleE_bad HF.out (by decide) B2.out
          · have HF := Lib.hid (debtC_order NB.out RB.out (by rw [HN.out, HM.out]; omega))
            have e4 : ((n : Int) == m) = false := by simp; omega
            have e5 : ((n : Int) != m) = true := by simp; omega
            go_wp2
            go_ret2
            exact settleE_bad HF.out (by decide) B2.out
end Go.Proofs.Ytednmmmnkcbpjaa
