/- Pairs of planks: PairAll of the program. -/
import Derived.Test.YtoodlpgamlelaaaPairV
import Derived.Test.YtoodlpgamlelaaaCopy
import Derived.BigQuiet
set_option linter.unusedVariables false
set_option linter.unusedSimpArgs false
namespace Go.Proofs.Ytoodlpgamlelaaa
open Go.RowKit

/-- the code of a search -/
def codeP (ds : List PlankD) (budget : Int) : Int := if planksB ds = false then 1 else if inB budget 1 20000 = false then 2 else if ds.length % 2 = 1 then 6 else 0
/-- what the search finds -/
def findP (ds : List PlankD) (budget : Int) : Option PSt := psrch (gpL ds) (ds.length / 2) (List.replicate ds.length false) [] 0 ⟨budget.toNat, [], 0, false⟩
def rowP (p : Nat × Nat) : List Int := [(p.1 : Int), (p.2 : Int)]
def rowsP (ps : List (Nat × Nat)) : List (List Int) := ps.map rowP
def PairAll_L (ds : List PlankD) (budget : Int) : List (List Int) × Int × Int :=
  if codeP ds budget = 0 then
    match findP ds budget with
    | none => ([], 0, 5)
    | some s => (rowsP s.best, s.least, 0)
  else ([], 0, codeP ds budget)
def RetPA (ts t : TypeId) (w : World) (r : List (List Int) × Int × Int) (e : Ending) (w' : World) : Prop :=
  ∃ v, e = .returned (.tuple #[v, .int .i64 r.2.1, .int .i64 r.2.2]) ∧ Own2 w' w.heap.size w'.heap.size ts t v r.1.length r.1 ∧ Below w.heap.size w w'
theorem rowsP_len (ps : List (Nat × Nat)) : (rowsP ps).length = ps.length := by simp [rowsP]
theorem rowsP_next {ps : List (Nat × Nat)} {k : Nat} {p : Nat × Nat} (h : ps[k]? = some p) : rowsP (ps.take (k + 1)) = rowsP (ps.take k) ++ [rowP p] := by
  have hk := (List.getElem?_eq_some_iff.1 h).1
  rw [List.take_succ_eq_append_getElem hk, rowsP, List.map_append, ← rowsP]
  have : ps[k] = p := (List.getElem?_eq_some_iff.1 h).2
  rw [this]; rfl
theorem infoB : (Try.prog.info? 4).map (fun i => (i.zero, i.size, i.bytes)) = some (some (.bool false), 1, 1) := by kernel_rfl
theorem unus_rep (n : Nat) : unus (List.replicate n false) = n := by simp [unus, List.countP_replicate]
theorem bvs_rep {n : Nat} {cs : Array Value} (hs : cs.size = n * 1) (hz : ∀ j, j < n * 1 → cs[j]? = some ((Value.bool false).cells[j % (Value.bool false).cells.size]!)) : cs = bvs (List.replicate n false) := by
  apply Array.ext_getElem?
  intro j
  by_cases hj : j < n
  · rw [hz j (by omega)]
    rw [bvs_get (b := false) (by simp [hj])]
    have : (Value.bool false).cells = #[.bool false] := rfl
    rw [this]
    simp [Nat.mod_one]
  · rw [Array.getElem?_eq_none (by omega), Array.getElem?_eq_none (by simp [bvs]; omega)]
theorem psrch_len {gp : Nat → Nat → Int} {M : Nat} : ∀ d us prs sum st st', psrch gp d us prs sum st = some st' → unus us = 2 * d → prs.length + d ≤ M → st.best.length ≤ M → st'.best.length ≤ M
  | 0, us, prs, sum, st, st', h, _, hl, hb => by
    rw [psrch] at h
    split at h
    · cases h
    · injection h with h
      subst h
      unfold leafP
      split
      · simpa using hl
      · exact hb
  | d + 1, us, prs, sum, st, st', h, hu, hl, hb => by
    rw [psrch] at h
    split at h
    · cases h
    · split at h
      · injection h with h
        subst h
        unfold leafP
        split
        · simp; omega
        · exact hb
      · obtain ⟨f1, _⟩ := unus_two (us := us) (by omega)
        have hfi := frst_is f1
        have gen : ∀ m st st', m ≤ us.length - (frst us + 1) → lpP (fun k => !us.getD k false) (fun k st => psrch gp d ((us.set (frst us) true).set k true) (prs ++ [(frst us, k)]) (sum + gp (frst us) k) st) us.length m st = some st' → st.best.length ≤ M → st'.best.length ≤ M := by
          intro m
          induction m with
          | zero => intro st st' hm h hb; simp [lpP] at h; subst h; exact hb
          | succ m ih =>
            intro st st' hm h hb
            rw [lpP] at h
            split at h
            · rename_i ho
              cases e : psrch gp d ((us.set (frst us) true).set (us.length - (m + 1)) true) (prs ++ [(frst us, us.length - (m + 1))]) (sum + gp (frst us) (us.length - (m + 1))) st with
              | none => rw [e] at h; cases h
              | some s2 =>
                rw [e] at h
                refine ih s2 st' (by omega) h (psrch_len d _ _ _ st s2 e ?_ (by simp; omega) hb)
                have hgg : (us.set (frst us) true)[us.length - (m + 1)]? = some false := by
                  have h2 : us.length - (m + 1) < us.length := by omega
                  rw [List.getElem?_set_ne (by omega), List.getElem?_eq_getElem h2]
                  rw [List.getD_eq_getElem?_getD, List.getElem?_eq_getElem h2] at ho
                  simpa using ho
                have a := unus_set hfi
                have b := unus_set hgg
                omega
            · exact ih st st' (by omega) h hb
        exact gen _ _ _ (Nat.le_refl _) h hb
theorem codeP_ok {ds : List PlankD} {budget : Int} (h : codeP ds budget = 0) : planksB ds = true ∧ inB budget 1 20000 = true ∧ ds.length % 2 = 0 := by
  unfold codeP at h
  split at h
  · cases h
  split at h
  · cases h
  split at h
  · cases h
  · rename_i h1 h2 h3
    simp at h1 h2 h3
    exact ⟨h1, h2, h3⟩
theorem ordTo_mem {p : PlankD → Bool} {key : PlankD → ByteArray} {ds : List PlankD} : ∀ {n : Nat}, ordTo p key ds n = true → ∀ {k : Nat} {x : PlankD}, k < n → ds[k]? = some x → p x = true
  | 0, _, k, x, hk, _ => absurd hk (Nat.not_lt_zero k)
  | n + 1, h, k, x, hk, hx => by
    rw [ordTo, Bool.and_eq_true] at h
    rcases Nat.lt_or_eq_of_le (Nat.le_of_lt_succ hk) with q | q
    · exact ordTo_mem h.1 q hx
    · subst q
      cases e : p x
      · rw [ordAt_no hx e] at h; exact absurd h.2 (by decide)
      · rfl
theorem ordB_mem {p : PlankD → Bool} {key : PlankD → ByteArray} {ds : List PlankD} (h : ordB p key ds = true) {x : PlankD} (hx : x ∈ ds) : p x = true := by
  obtain ⟨k, hk, e⟩ := List.mem_iff_getElem.1 hx
  exact ordTo_mem h hk (by rw [List.getElem?_eq_getElem hk, e])
theorem planksB_t {ds : List PlankD} (h : planksB ds = true) : ds.length ≤ 16 ∧ ∀ x ∈ ds, plankR x := by
  unfold planksB at h
  rw [Bool.and_eq_true] at h
  refine ⟨of_decide_eq_true h.2, fun x hx => plankR_of ?_⟩
  exact ordB_mem h.1 hx
theorem pairAll_c {ds : List PlankD} {budget c : Int} (h : codeP ds budget = c) (hc : c ≠ 0) : PairAll_L ds budget = ([], 0, c) := by
  rw [PairAll_L, if_neg (by rw [h]; exact hc), h]
theorem own2_low {w : World} {L L' B n : Nat} {ts t : TypeId} {v : Value} {rs : List (List Int)} (h : Own2 w L B ts t v n rs) (hL : L' ≤ L) : Own2 w L' B ts t v n rs := by
  obtain ⟨hl, hB, vs, h1, h2, h3⟩ := h
  exact ⟨hl, hB, vs, own_less h1 hL, fun i r hr => by
    obtain ⟨u, e, ho, hk⟩ := h2 i r hr
    exact ⟨u, e, own_less ho hL, hk⟩, h3⟩
section
variable (LA : Option Addr) (lc n : Nat) (ds : List PlankD) (budget : Int)
set_option maxRecDepth 100000 in
set_option maxHeartbeats 4000000 in
theorem PairAll_i (w : World) (hn : ds.length = n) (hl : Rd w w.heap.size 6 LA n (ds.flatMap plankF)) (hz : plankZ ds) (hn1 : n ≤ 1048576) :
    Calls Try.prog 7 #[.slice LA n lc, .int .i64 budget] w (RetPA 31 2 w (PairAll_L ds budget)) := by
  have HN := Lib.hid hn
  have CV := ValidPlanks_i LA lc n ds w hn hl hz hn1
  have HL := Lib.hid hl
  clear hn hl hz
  cases hcb : planksB ds
  · have HE : Hid (PairAll_L ds budget = ([], 0, 1)) := Lib.hid (pairAll_c (by rw [codeP, if_pos hcb]) (by decide))
    rw [hcb] at CV
    clear hcb
    go_enter Try.func7, Try.ntmps7
    go_wp2_with fail
    refine CV.mono ?_
    rintro r w1 ⟨rfl, hb1⟩
    clear CV
    go_wp2
    go_ret3
    exact ⟨_, by rw [HE.out]; rfl, by rw [HE.out]; exact own2_nil _ _ _ _ _, hb1⟩
  rw [hcb] at CV
  have HCB := Lib.hid hcb
  clear hcb
  cases h1 : inB budget 1 20000
  · have HE : Hid (PairAll_L ds budget = ([], 0, 2)) := Lib.hid (pairAll_c (by rw [codeP, if_neg (by rw [HCB.out]; decide), if_pos h1]) (by decide))
    go_enter Try.func7, Try.ntmps7
    go_wp2_with fail
    refine CV.mono ?_
    rintro r w1 ⟨rfl, hb1⟩
    clear CV
    go_wp2_with ((go_at_call 20; refine (within_any _ _ _ _).mono ?_; rintro e w' ⟨rfl, rfl⟩))
    go_ret3
    exact ⟨_, by rw [HE.out]; rfl, by rw [HE.out]; exact own2_nil _ _ _ _ _, hb1⟩
  obtain ⟨n16, hpl⟩ := planksB_t HCB.out
  rw [HN.out] at n16
  have PL := Lib.hid hpl
  clear hpl
  have b1 := inB_t h1
  rcases Nat.mod_two_eq_zero_or_one n with hm | hm
  case inr =>
    have HE : Hid (PairAll_L ds budget = ([], 0, 6)) := Lib.hid (pairAll_c (by rw [codeP, if_neg (by rw [HCB.out]; decide), if_neg (by rw [h1]; decide), HN.out, if_pos hm]) (by decide))
    have hr : ((n : Int) % 2 == 1) = true := by simp; omega
    clear hm
    go_enter Try.func7, Try.ntmps7
    go_wp2_with fail
    refine CV.mono ?_
    rintro r w1 ⟨rfl, hb1⟩
    clear CV
    go_wp2_with ((go_at_call 20; refine (within_any _ _ _ _).mono ?_; rintro e w' ⟨rfl, rfl⟩))
    go_ret3
    exact ⟨_, by rw [HE.out]; rfl, by rw [HE.out]; exact own2_nil _ _ _ _ _, hb1⟩
  · obtain ⟨bd, hbd⟩ : ∃ bd : Nat, budget = bd := ⟨budget.toNat, by omega⟩
    subst hbd
    have HC : Hid (codeP ds (bd : Int) = 0) := Lib.hid (by rw [codeP, if_neg (by rw [HCB.out]; decide), if_neg (by rw [h1]; decide), HN.out, if_neg (by omega)])
    have HF : Hid (findP ds (bd : Int) = psrch (gpL ds) (n / 2) (List.replicate n false) [] 0 ⟨bd, [], 0, false⟩) := Lib.hid (by rw [findP, HN.out]; rfl)
    have hr : ((n : Int) % 2 == 1) = false := by rw [Bool.eq_false_iff]; simp; omega
    have HM := Lib.hid hm
    clear hm
    obtain ⟨cs, hcs, hcz, hmk⟩ := make_run (P := Try.prog) Try.underlying30 infoB n (by omega) (by unfold maxLen; omega)
    have HCS := Lib.hid (bvs_rep hcs hcz)
    clear hcs hcz
    go_enter Try.func7, Try.ntmps7
    go_wp2_with fail
    refine CV.mono ?_
    rintro r w1 ⟨rfl, hb1⟩
    have B1 := Lib.hid hb1
    have hs1 := hb1.size
    clear CV hb1
    go_upto_region 8 with ((go_at_call 20; refine (within_any _ _ _ _).mono ?_; rintro e w' ⟨rfl, rfl⟩))
    have KU := Blk.new w1 4 cs
    have BA := (Below.refl w1.heap.size w1).alloc (Nat.le_refl _) (.cells cs 4)
    have K0 := Blk.new (w1.alloc (.cells cs 4)) 51 #[.slice LA n lc, .slice (some ⟨w1.heap.size, 0, none⟩) n n, .slice none 0 0, .int .i64 0, .int .i64 bd, .slice none 0 0, .int .i64 0, .bool false]
    have BC := (Below.refl (w1.alloc (.cells cs 4)).heap.size (w1.alloc (.cells cs 4))).alloc (Nat.le_refl _) (.cells #[.slice LA n lc, .slice (some ⟨w1.heap.size, 0, none⟩) n n, .slice none 0 0, .int .i64 0, .int .i64 bd, .slice none 0 0, .int .i64 0, .bool false] 51)
    have KU2 := KU.below BC KU.lt
    have B2 := Lib.hid (below_more B1.out (below_more BA BC (Nat.le_refl _)) (Nat.le_refl _))
    have RL := Lib.hid (HL.out.below B2.out)
    have sz1 : (w1.alloc (.cells cs 4)).heap.size = w1.heap.size + 1 := by simp
    rw [sz1] at K0
    have sz2 := K0.lt
    obtain ⟨gu, hg⟩ : ∃ gu, gu = w1.heap.size := ⟨_, rfl⟩
    rw [← hg] at K0 KU2 B2 RL sz2 hs1 ⊢
    clear hmk KU BA BC sz1 hg
    generalize (w1.alloc (.cells cs 4)).alloc (.cells #[.slice LA n lc, .slice (some ⟨gu, 0, none⟩) n n, .slice none 0 0, .int .i64 0, .int .i64 bd, .slice none 0 0, .int .i64 0, .bool false] 51) = w2 at K0 KU2 B2 RL sz2 ⊢
    rw [HCS.out] at KU2
    have CS := psearch_any ds (gu + 1) gu gu w.heap.size LA n lc n n16 HN.out PL.out (n / 2) w2 (List.replicate n false) [] 0 ⟨bd, [], 0, false⟩ (.slice none 0 0) (.slice none 0 0) ⟨⟨K0, KU2, World.ownsRow_nil _ _ _ _, World.ownsRow_nil _ _ _ _, fun k hk => by simp [Value.ownBlock] at hk⟩, by simp, by rw [unus_rep]; have := HM.out; omega, by simp; omega, by omega, by simp, by simp; omega, RL.out, by omega, hs1, hs1, by omega⟩
    rw [← HF.out] at CS
    have SL := Lib.hid (fun s (h : findP ds (bd : Int) = some s) => (show s.best.length ≤ 8 by
      rw [HF.out] at h
      exact psrch_len (M := 8) _ _ _ _ _ _ h (by rw [unus_rep]; have := HM.out; omega) (by simp; omega) (by simp)))
    obtain ⟨r, hr⟩ : ∃ r, r = findP ds (bd : Int) := ⟨_, rfl⟩
    rw [← hr] at CS
    have HRR := Lib.hid hr
    clear hr K0 KU2
    go_wp2_with fail
    refine CS.mono ?_
    rintro e w3 ⟨st', v1, v3, rfl, hst, hsa, hf, _⟩
    have B3 := Lib.hid (B2.out.trans (hf.belowB (B := w.heap.size) (by omega) B2.out.size (fun k hk => by simp [Value.ownBlock] at hk) (fun k hk => by simp [Value.ownBlock] at hk; omega)))
    have SA := Lib.hid hsa
    have ST := Lib.hid hst
    clear CS hst hsa hf
    cases r with
    | none =>
      have HE : Hid (PairAll_L ds (bd : Int) = ([], 0, 5)) := Lib.hid (by rw [PairAll_L, if_pos HC.out, ← HRR.out])
      go_wp2
      go_ret3
      exact ⟨_, by rw [HE.out]; rfl, by rw [HE.out]; exact own2_nil _ _ _ _ _, B3.out⟩
    | some s =>
      have e2 : st' = s := ST.out s rfl
      subst e2
      have HE : Hid (PairAll_L ds (bd : Int) = (rowsP st'.best, st'.least, 0)) := Lib.hid (by rw [PairAll_L, if_pos HC.out, ← HRR.out])
      have q8 := SL.out st' HRR.out.symm
      rw [show (some st').isSome = true from rfl]
      obtain ⟨left, bs, least, solved⟩ := st'
      simp only at *
      obtain ⟨A3, c3, rfl⟩ := own_valP SA.out.o3
      obtain ⟨q, hq⟩ : ∃ q, q = bs.length := ⟨_, rfl⟩
      have HQ := Lib.hid hq
      have hc := SA.out.k.cell
      have O3 := Lib.hid SA.out.o3
      have KK := Lib.hid SA.out.k
      simp only at hc O3 KK
      rw [← hq] at q8 hc O3 KK
      clear hq SA ST SL
      go_upto_region 10 with fail
      have O0 := Lib.hid (own2_empty w3 31 2)
      have b0 := Lib.hid ((Below.refl w3.heap.size w3).alloc (Nat.le_refl _) (.cells #[] 31))
      go_upto_region 11 with fail
      have hc : ∀ i, (w3.alloc (.cells #[] 31)).cell? ⟨gu + 1, i, none⟩ = _ := fun i => (KK.out.below b0.out KK.out.lt).cell i
      clear hc
      have hc := (KK.out.below b0.out KK.out.lt).cell
      generalize w3.alloc (.cells #[] 31) = w4 at O0 b0 hc ⊢
      go_wp2_with fail
      go_loopw [8, 40] (fun v i wr => ∃ k : Nat, k ≤ q ∧ i = .int .i64 k ∧ Hid (Own2 wr w3.heap.size wr.heap.size 31 2 v (rowsP (bs.take k)).length (rowsP (bs.take k))) ∧ Hid (Below w3.heap.size w3 wr)) (fun _ i _ => q - (intOf i).toNat)
      case atStart => exact ⟨0, Nat.zero_le _, rfl, O0, b0⟩
      case round =>
        obtain ⟨k, hk, rfl, hown, hb⟩ := hrel
        have hsz := hb.out.size
        by_cases hlt : k < q
        · obtain ⟨p, hp, _⟩ := getD_of (l := bs) (i := k) (by rw [← HQ.out]; exact hlt)
          have HX := Lib.hid (rowsP_next hp)
          obtain ⟨a, b⟩ := p
          have ll : (rowsP (bs.take k)).length ≤ 1099511627776 := by rw [rowsP_len, List.length_take, ← HQ.out]; omega
          have rd3 : Rd w3 w3.heap.size 2 A3 q (bs.flatMap pf) := Rd.own O3.out
          obtain ⟨b3, o3, rfl, hb3, hcell⟩ := (rd3.below hb.out).at_ pf_len (by omega)
          have c0 : wr.cell? ⟨b3, o3 + k * 2, none⟩ = some (.int .i64 (a : Int)) := hcell k _ 0 _ hp rfl
          have c1 : wr.cell? ⟨b3, o3 + k * 2 + 1, none⟩ = some (.int .i64 (b : Int)) := hcell k _ 1 _ hp rfl
          clear hcell hp rd3
          obtain ⟨A5, c5, rfl⟩ := own2_val hown.out
          go_upto_region 14 with fail
          have BA := (Below.refl wr.heap.size wr).alloc (Nat.le_refl _) (.cells #[.int .i64 (a : Int), .int .i64 (b : Int)] 53)
          have KP := Blk.new wr 53 #[.int .i64 (a : Int), .int .i64 (b : Int)]
          have hcp := KP.cell
          have H5 := Lib.hid ((hown.out.below BA).more BA.size)
          have B5 := Lib.hid (below_more hb.out BA (Nat.le_refl _))
          have sz5 : w3.heap.size ≤ (wr.alloc (.cells #[.int .i64 (a : Int), .int .i64 (b : Int)] 53)).heap.size := B5.out.size
          clear BA KP c0 c1
          obtain ⟨gp, hgp⟩ : ∃ gp, gp = wr.heap.size := ⟨_, rfl⟩
          rw [← hgp] at hcp ⊢
          clear hgp
          generalize wr.alloc (.cells #[.int .i64 (a : Int), .int .i64 (b : Int)] 53) = w5 at hcp H5 B5 sz5 ⊢
          go_wp2_with (at_builtin; refine app2 rfl (.tmp 44) (.tmp 50) rfl w3.heap.size (.slice A5 (rowsP (bs.take k)).length c5) (rowsP (bs.take k)) [(a : Int), (b : Int)] _ rfl rfl H5.out rfl sz5 ll (by simp [maxLen]) ?_; intro v6 w6 ho6 hb6)
          have V6 : Hid (Own2 w6 w3.heap.size w6.heap.size 31 2 v6 (rowsP (bs.take (k + 1))).length (rowsP (bs.take (k + 1)))) := Lib.hid (by rw [HX.out]; exact ho6)
          have B6 := Lib.hid (B5.out.trans hb6)
          clear ho6 hb6 H5 B5 hcp hown hb
          go_wp2
          go_roundw
          case rel => exact ⟨k + 1, by omega, by go_num, V6, B6⟩
          case measure => simp [intOf]; omega
        · obtain rfl : k = q := by omega
          have o := hown.out
          rw [List.take_of_length_le (by rw [← HQ.out]; omega)] at o
          have VE := Lib.hid o
          clear o
          have hc := (KK.out.below hb.out KK.out.lt).cell
          clear hown
          go_wp2_with fail
          go_quiet (fail)
          go_wp2
          go_ret3
          exact ⟨_, by rw [HE.out]; rfl, by rw [HE.out]; exact own2_low VE.out B3.out.size, below_drewN (below_more B3.out hb.out (Nat.le_refl _)) _⟩
end
end Go.Proofs.Ytoodlpgamlelaaa
