/- Pairs of planks: PairAll of the reference. -/
import Derived.Test.YtemkggecempmgaaPairX
set_option linter.unusedVariables false
set_option linter.unusedSimpArgs false
namespace Go.Proofs.Ytemkggecempmgaa
open Go.RowKit

section
variable (LA : Option Addr) (lc n : Nat) (ds : List PlankD) (budget : Int)
set_option maxRecDepth 100000 in
set_option maxHeartbeats 4000000 in
theorem PairAll_s (w : World) (hn : ds.length = n) (hl : Rd w w.heap.size 6 LA n (ds.flatMap plankF)) (hz : plankZ ds) (hn1 : n ≤ 1048576) :
    Calls Try.prog 40 #[.slice LA n lc, .int .i64 budget] w (RetPA 29 2 w (PairAll_L ds budget)) := by
  have HN := Lib.hid hn
  have CV := l03Ok_s LA lc n ds w hn hl hz hn1
  have HL := Lib.hid hl
  clear hn hl hz
  cases hcb : planksB ds
  · have HE : Hid (PairAll_L ds budget = ([], 0, 1)) := Lib.hid (pairAll_c (by rw [codeP, if_pos hcb]) (by decide))
    rw [hcb] at CV
    clear hcb
    go_enter Try.func40, Try.ntmps40
    go_wp2_with fail
    refine CV.mono ?_
    rintro r w1 ⟨rfl, hb1⟩
    clear CV
    go_wp2
    go_ret3
    exact ⟨_, by rw [HE.out]; rfl, by rw [HE.out]; exact own2_nil _ _ _ _ _, hb1⟩
  rw [hcb] at CV
  have HCB := Lib.hid hcb
  clear hcb
  cases h1 : inB budget 1 20000
  · have HE : Hid (PairAll_L ds budget = ([], 0, 2)) := Lib.hid (pairAll_c (by rw [codeP, if_neg (by rw [HCB.out]; decide), if_pos h1]) (by decide))
    go_enter Try.func40, Try.ntmps40
    go_wp2_with fail
    refine CV.mono ?_
    rintro r w1 ⟨rfl, hb1⟩
    clear CV
    go_wp2_with ((go_at_call 74; refine (l00In_any _ _ _ _).mono ?_; rintro e w' ⟨rfl, rfl⟩))
    go_ret3
    exact ⟨_, by rw [HE.out]; rfl, by rw [HE.out]; exact own2_nil _ _ _ _ _, hb1⟩
  obtain ⟨n16, hpl⟩ := planksB_t HCB.out
  rw [HN.out] at n16
  have PL := Lib.hid hpl
  clear hpl
  have b1 := inB_t h1
  rcases Nat.mod_two_eq_zero_or_one n with hm | hm
  case inr =>
    have HE : Hid (PairAll_L ds budget = ([], 0, 6)) := Lib.hid (pairAll_c (by rw [codeP, if_neg (by rw [HCB.out]; decide), if_neg (by rw [h1]; decide), HN.out, if_pos hm]) (by decide))
    have hr : ((n : Int) % 2 == 1) = true := by simp; omega
    clear hm
    go_enter Try.func40, Try.ntmps40
    go_wp2_with fail
    refine CV.mono ?_
    rintro r w1 ⟨rfl, hb1⟩
    clear CV
    go_wp2_with ((go_at_call 74; refine (l00In_any _ _ _ _).mono ?_; rintro e w' ⟨rfl, rfl⟩))
    go_ret3
    exact ⟨_, by rw [HE.out]; rfl, by rw [HE.out]; exact own2_nil _ _ _ _ _, hb1⟩
  · obtain ⟨bd, hbd⟩ : ∃ bd : Nat, budget = bd := ⟨budget.toNat, by omega⟩
    subst hbd
    have HC : Hid (codeP ds (bd : Int) = 0) := Lib.hid (by rw [codeP, if_neg (by rw [HCB.out]; decide), if_neg (by rw [h1]; decide), HN.out, if_neg (by omega)])
    have HF : Hid (findP ds (bd : Int) = psrch (gpL ds) (n / 2) (List.replicate n false) [] 0 ⟨bd, [], 0, false⟩) := Lib.hid (by rw [findP, HN.out]; rfl)
    have hr : ((n : Int) % 2 == 1) = false := by rw [Bool.eq_false_iff]; simp; omega
    have HM := Lib.hid hm
    clear hm
    obtain ⟨cs, hcs, hcz, hmk⟩ := make_run (P := Try.prog) Try.underlying58 infoB n (by omega) (by unfold maxLen; omega)
    have HCS := Lib.hid (bvs_rep hcs hcz)
    clear hcs hcz
    go_enter Try.func40, Try.ntmps40
    go_wp2_with fail
    refine CV.mono ?_
    rintro r w1 ⟨rfl, hb1⟩
    have B1 := Lib.hid hb1
    have hs1 := hb1.size
    clear CV hb1
    go_upto_region 8 with ((go_at_call 74; refine (l00In_any _ _ _ _).mono ?_; rintro e w' ⟨rfl, rfl⟩))
    have KU := Blk.new w1 4 cs
    have BA := (Below.refl w1.heap.size w1).alloc (Nat.le_refl _) (.cells cs 4)
    have K0 := Blk.new (w1.alloc (.cells cs 4)) 108 #[.slice LA n lc, .slice (some ⟨w1.heap.size, 0, none⟩) n n, .slice none 0 0, .slice none 0 0, .int .i64 (-1), .int .i64 0, .int .i64 bd]
    have BC := (Below.refl (w1.alloc (.cells cs 4)).heap.size (w1.alloc (.cells cs 4))).alloc (Nat.le_refl _) (.cells #[.slice LA n lc, .slice (some ⟨w1.heap.size, 0, none⟩) n n, .slice none 0 0, .slice none 0 0, .int .i64 (-1), .int .i64 0, .int .i64 bd] 108)
    have KU2 := KU.below BC KU.lt
    have B2 := Lib.hid (below_more B1.out (below_more BA BC (Nat.le_refl _)) (Nat.le_refl _))
    have RL := Lib.hid (HL.out.below B2.out)
    have sz1 : (w1.alloc (.cells cs 4)).heap.size = w1.heap.size + 1 := by simp
    rw [sz1] at K0
    have sz2 := K0.lt
    obtain ⟨gu, hg⟩ : ∃ gu, gu = w1.heap.size := ⟨_, rfl⟩
    rw [← hg] at K0 KU2 B2 RL sz2 hs1 ⊢
    clear hmk KU BA BC sz1 hg
    generalize (w1.alloc (.cells cs 4)).alloc (.cells #[.slice LA n lc, .slice (some ⟨gu, 0, none⟩) n n, .slice none 0 0, .slice none 0 0, .int .i64 (-1), .int .i64 0, .int .i64 bd] 108) = w2 at K0 KU2 B2 RL sz2 ⊢
    rw [HCS.out] at KU2
    have CS := pnext_any ds (gu + 1) gu gu w.heap.size LA n lc n bd n16 HN.out PL.out (n / 2) w2 (List.replicate n false) [] 0 ⟨bd, [], 0, false⟩ (.slice none 0 0) (.slice none 0 0) [] [] (-1) 0 ⟨⟨K0, KU2, World.ownsRow_nil _ _ _ _, World.ownsRow_nil _ _ _ _, RowsR.nil _, RowsR.nil _, fun k hk => by simp [Value.ownBlock] at hk, Frm.refl _ _ _ _, Nw.refl _ _⟩, ⟨by simp, by omega, by omega, fun h => (by cases h), fun _ => rfl⟩, by simp, by rw [unus_rep]; have := HM.out; omega, by simp; omega, by omega, by simp, RL.out, by omega, hs1, hs1, by omega⟩
    rw [← HF.out] at CS
    have SL := Lib.hid (fun s (h : findP ds (bd : Int) = some s) => (show s.best.length ≤ 8 ∧ s.solved = true by
      rw [HF.out] at h
      exact ⟨psrch_len (M := 8) _ _ _ _ _ _ h (by rw [unus_rep]; have := HM.out; omega) (by simp; omega) (by simp), psrch_sol _ _ _ _ _ _ h (by rw [unus_rep]; have := HM.out; omega)⟩))
    obtain ⟨r, hr⟩ : ∃ r, r = findP ds (bd : Int) := ⟨_, rfl⟩
    rw [← hr] at CS
    have HRR := Lib.hid hr
    clear hr K0 KU2
    go_wp2_with fail
    refine CS.mono ?_
    rintro e w3 ⟨rfl, hf, hst⟩
    have B3 := Lib.hid (B2.out.trans (hf.belowB (B := w.heap.size) (by omega) B2.out.size (fun k hk => by simp [Value.ownBlock] at hk) (fun k hk => by simp [Value.ownBlock] at hk; omega)))
    have ST := Lib.hid hst
    clear CS hst hf
    cases r with
    | none =>
      have HE : Hid (PairAll_L ds (bd : Int) = ([], 0, 5)) := Lib.hid (by rw [PairAll_L, if_pos HC.out, ← HRR.out])
      rw [show (none : Option PSt).isNone = true from rfl]
      go_wp2
      go_ret3
      exact ⟨_, by rw [HE.out]; rfl, by rw [HE.out]; exact own2_nil _ _ _ _ _, B3.out⟩
    | some st' =>
      have HE : Hid (PairAll_L ds (bd : Int) = (rowsP st'.best, st'.least, 0)) := Lib.hid (by rw [PairAll_L, if_pos HC.out, ← HRR.out])
      have q8 := SL.out st' HRR.out.symm
      rw [show (some st').isNone = false from rfl]
      obtain ⟨x1, v3, vs, ws, least2, nodes2, QA, CC⟩ := ST.out st' rfl
      obtain ⟨rfl, _⟩ := CC.y q8.2
      obtain ⟨left, bs, least, solved⟩ := st'
      simp only at *
      obtain ⟨A3, c3, rfl⟩ := own_valP QA.o3
      obtain ⟨q, hq⟩ : ∃ q, q = bs.length := ⟨_, rfl⟩
      have HQ := Lib.hid hq
      have hc := QA.k.cell
      have O3 := Lib.hid QA.o3
      have R3 := Lib.hid QA.r3
      have KK := Lib.hid QA.k
      rw [← hq] at q8 hc O3 KK
      clear hq QA ST SL CC
      go_upto_region 10 with fail
      have O0 := Lib.hid (own2_empty w3 29 2)
      have b0 := Lib.hid ((Below.refl w3.heap.size w3).alloc (Nat.le_refl _) (.cells #[] 29))
      go_upto_region 11 with fail
      clear hc
      have hc := (KK.out.below b0.out KK.out.lt).cell
      generalize w3.alloc (.cells #[] 29) = w4 at O0 b0 hc ⊢
      go_wp2_with fail
      clear hc
      go_loopw [8, 9] (fun v i wr => ∃ k : Nat, k ≤ q ∧ i = .int .i64 k ∧ Hid (Own2 wr w3.heap.size wr.heap.size 29 2 v (rowsP (bs.take k)).length (rowsP (bs.take k))) ∧ Hid (Below w3.heap.size w3 wr)) (fun _ i _ => q - (intOf i).toNat)
      case atStart => exact ⟨0, Nat.zero_le _, rfl, O0, b0⟩
      case round =>
        obtain ⟨k, hk, rfl, hown, hb⟩ := hrel
        have hsz := hb.out.size
        have hc := (KK.out.below hb.out KK.out.lt).cell
        by_cases hlt : k < q
        · obtain ⟨p, hp, _⟩ := getD_of (l := bs) (i := k) (by rw [← HQ.out]; exact hlt)
          have HX := Lib.hid (rowsP_next hp)
          obtain ⟨bb, eb, kb⟩ := (R3.out.keep hb.out).2 k p hp
          obtain ⟨a, b⟩ := p
          have ll : (rowsP (bs.take k)).length ≤ 1099511627776 := by rw [rowsP_len, List.length_take, ← HQ.out]; omega
          have rd3 : Rd w3 w3.heap.size 1 A3 q ws := Rd.own O3.out
          obtain ⟨b3, o3, rfl, hb3, hcell⟩ := (rd3.below hb.out).2 (by omega)
          have c0 : wr.cell? ⟨b3, o3 + k, none⟩ = some (.slice (some ⟨bb, 0, none⟩) 2 2) := hcell k _ eb
          have RB := Lib.hid (Rd.blk (w := wr) (B := wr.heap.size) (k := 1) (n := 2) (xs := iv [(a : Int), (b : Int)]) kb rfl kb.lt)
          clear hcell hp rd3 eb kb
          obtain ⟨A5, c5, rfl⟩ := own2_val hown.out
          go_wp2_with fail
          refine (l00Own_any bb 0 2 2 [(a : Int), (b : Int)] wr RB.out (by omega)).mono ?_
          rintro e w5 ⟨u, rfl, hou, hb1⟩
          obtain ⟨Au, cu, rfl⟩ := own_val hou
          have hs1 := hb1.size
          have M1 := Lib.hid (hown.out.below hb1)
          have U1 := Lib.hid (own_less hou (Nat.le_trans hsz (Nat.le_refl _)))
          have UB : Hid (∀ k, Value.ownBlock (.slice Au 2 cu) = some k → wr.heap.size ≤ k) := Lib.hid fun k hk => (hou.lt k hk).1
          have B5 := Lib.hid (below_more hb.out hb1 (Nat.le_refl _))
          clear hou hb1 hown hb c0 hc RB
          have sz5 : w3.heap.size ≤ w5.heap.size := by omega
          go_wp2_with (at_builtin; refine app2u rfl (.tmp 39) (.tmp 48) rfl w3.heap.size wr.heap.size (.slice A5 (rowsP (bs.take k)).length c5) (.slice Au 2 cu) (rowsP (bs.take k)) [(a : Int), (b : Int)] rfl M1.out U1.out UB.out hs1 rfl sz5 ll ?_; intro v6 w6 ho6 hb6)
          have V6 : Hid (Own2 w6 w3.heap.size w6.heap.size 29 2 v6 (rowsP (bs.take (k + 1))).length (rowsP (bs.take (k + 1)))) := Lib.hid (by rw [HX.out]; exact ho6)
          have B6 := Lib.hid (B5.out.trans hb6)
          clear ho6 hb6 M1 U1 UB B5
          go_roundw
          case rel => exact ⟨k + 1, by omega, by go_num, V6, B6⟩
          case measure => simp [intOf]; omega
        · obtain rfl : k = q := by omega
          have o := hown.out
          rw [List.take_of_length_le (by rw [← HQ.out]; omega)] at o
          have VE := Lib.hid o
          clear o hown
          go_wp2_with fail
          go_quiet (fail)
          go_wp2
          go_ret3
          exact ⟨_, by rw [HE.out]; rfl, by rw [HE.out]; exact own2_low VE.out B3.out.size, below_drewN (below_more B3.out hb.out (Nat.le_refl _)) _⟩
end
end Go.Proofs.Ytemkggecempmgaa
