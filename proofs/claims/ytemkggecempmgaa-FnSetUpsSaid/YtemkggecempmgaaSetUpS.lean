/- Set-ups of strings: SetUp and CountSetUps of the reference. -/
import Derived.Test.YtemkggecempmgaaSetUps
import Derived.Test.YtemkggecempmgaaSetLaw
set_option linter.unusedVariables false
set_option linter.unusedSimpArgs false
namespace Go.Proofs.Ytemkggecempmgaa
open Go.RowKit

theorem l09Share_any (n : Int) (w : World) : Calls Try.prog 56 #[.int .i64 n] w fun e w' => e = .returned (.bool (inB n 0 1000)) ∧ w = w' := by
  go_enter Try.func56, Try.ntmps56
  go_wp2_with ((go_at_call 74; refine (l00In_any _ _ _ _).mono ?_; rintro e w' ⟨rfl, rfl⟩))
  go_ret
  exact ⟨rfl, rfl⟩
section
variable (LA GA : Option Addr) (lc gc n m : Nat) (cs : List CordD) (gs : List (List Int)) (most share budget : Int)
set_option maxRecDepth 100000 in
set_option maxHeartbeats 4000000 in
theorem l09Begin_any (w : World) (hn : cs.length = n) (hl : Rd w w.heap.size 4 LA n (cs.flatMap cordF)) (hg : Rd2 w 0 w.heap.size GA m gs) (hr : ∀ r ∈ gs, r.length ≤ maxLen) (hn1 : n ≤ 1048576) (hm1 : m ≤ 1048576) :
    Calls Try.prog 59 #[.slice LA n lc, .slice GA m gc, .int .i64 most, .int .i64 share, .int .i64 budget] w fun e w' => e = .returned (.int .i64 (codeS cs gs most share budget)) ∧ Below w.heap.size w w' := by
  have HN := Lib.hid hn
  have HM := Lib.hid hg.1
  have CV := l09List_any LA lc n cs w hn hl hn1
  have HG := Lib.hid hg
  have HR := Lib.hid hr
  clear hn hl hg hr
  cases hcb : cordsB cs
  · have HE : Hid (codeS cs gs most share budget = 1) := Lib.hid (by rw [codeS, if_pos hcb])
    rw [hcb] at CV
    clear hcb
    go_enter Try.func59, Try.ntmps59
    go_wp2_with ((go_at_call 55; refine (CV).mono ?_; rintro e w' ⟨rfl, rfl⟩))
    go_ret
    exact ⟨ret_int HE.out.symm, Below.refl _ _⟩
  rw [hcb] at CV
  have HCB := Lib.hid hcb
  clear hcb
  have early : ∀ b1 b2 b3 : Bool, inB share 0 1000 = b1 → inB most 0 2000000 = b2 → inB budget 1 20000 = b3 → (b1 && (b2 && b3)) = false → Calls Try.prog 59 #[.slice LA n lc, .slice GA m gc, .int .i64 most, .int .i64 share, .int .i64 budget] w fun e w' => e = .returned (.int .i64 (codeS cs gs most share budget)) ∧ Below w.heap.size w w' := by
    intro b1 b2 b3 h1 h2 h3 h4
    have HE : Hid (codeS cs gs most share budget = 2) := Lib.hid (by rw [codeS, if_neg (by rw [HCB.out]; decide), if_pos (by rw [h1, h2, h3]; exact h4)])
    cases b1 <;> cases b2 <;> cases b3 <;> first | (exact absurd h4 (by decide)) | skip
    all_goals
      clear h4
      go_enter Try.func59, Try.ntmps59
      go_wp2_with (first | (go_at_call 55; refine (CV).mono ?_; rintro e w' ⟨rfl, rfl⟩) | (go_at_call 56; refine (l09Share_any _ _).mono ?_; rintro e w' ⟨rfl, rfl⟩) | (go_at_call 74; refine (l00In_any _ _ _ _).mono ?_; rintro e w' ⟨rfl, rfl⟩))
      go_ret
      exact ⟨ret_int HE.out.symm, Below.refl _ _⟩
  cases h1 : inB share 0 1000
  · exact early _ _ _ h1 rfl rfl rfl
  cases h2 : inB most 0 2000000
  · exact early _ _ _ h1 h2 rfl (by simp)
  cases h3 : inB budget 1 20000
  · exact early _ _ _ h1 h2 h3 rfl
  clear early
  have HC : Hid (codeS cs gs most share budget = if (decide (m = n) && gTo gs m) = false then 7 else 0) := Lib.hid (by rw [codeS, if_neg (by rw [HCB.out]; decide), if_neg (by rw [h1, h2, h3]; decide), HM.out, HN.out])
  go_enter Try.func59, Try.ntmps59
  go_wp2_with (first | (go_at_call 55; refine (CV).mono ?_; rintro e w' ⟨rfl, rfl⟩) | (go_at_call 56; refine (l09Share_any _ _).mono ?_; rintro e w' ⟨rfl, rfl⟩) | (go_at_call 74; refine (l00In_any _ _ _ _).mono ?_; rintro e w' ⟨rfl, rfl⟩))
  clear CV h1 h2 h3
  go_loopw [11] (fun i wr => ∃ k : Nat, k ≤ m ∧ i = .int .i64 k ∧ Hid (gTo gs k = true) ∧ Hid (Below w.heap.size w wr)) (fun i _ => m - (intOf i).toNat)
  case atStart => exact ⟨0, Nat.zero_le _, rfl, Lib.hid rfl, Lib.hid (Below.refl _ _)⟩
  case round =>
    obtain ⟨k, hk, rfl, HT, hb⟩ := hrel
    have hsz := hb.out.size
    by_cases hlt : k < m
    · obtain ⟨r, hr, hrm⟩ := getD_of (l := gs) (i := k) (by rw [HM.out]; exact hlt)
      obtain ⟨bg, og, rfl, hbg, hcg⟩ := (HG.out.next hb.out).at_ (by omega)
      obtain ⟨Ag, cg, hg0, hgr, hgc⟩ := hcg k r hr
      have rl := HR.out r hrm
      have E1 := Lib.hid (getD_ok (d := []) hr)
      have RG := Lib.hid hgr.1
      obtain ⟨q, hq⟩ : ∃ q, q = r.length := ⟨_, rfl⟩
      have HQ := Lib.hid hq
      rw [← hq] at rl hg0 RG
      have CR := l00Rises_any Ag cg q r wr RG.out rl
      unfold maxLen at rl
      clear hq hcg hgr hgc hr hrm
      cases hz : rzTo r q
      · have HX : Hid (codeS cs gs most share budget = 7) := Lib.hid (by rw [HC.out, gTo_bad hlt (by rw [E1.out, rowG, ← HQ.out, hz]; rfl), Bool.and_false, if_pos rfl])
        rw [hz] at CR
        clear hz
        go_wp2_with fail
        refine CR.mono ?_
        rintro e w1 ⟨rfl, hb1⟩
        have B1 := Lib.hid (below_more hb.out hb1 (Nat.le_refl _))
        clear CR hb1 hg0
        go_wp2
        go_ret
        exact ⟨ret_int HX.out.symm, B1.out⟩
      · rw [hz] at CR
        have HZ := Lib.hid hz
        clear hz
        go_wp2_with fail
        refine CR.mono ?_
        rintro e w1 ⟨rfl, hb1⟩
        have B1 := Lib.hid (below_more hb.out hb1 (Nat.le_refl _))
        have hg1 := (hb1.cell (p := ⟨bg, og + k, none⟩) hbg).trans hg0
        clear CR hb1 hg0
        by_cases h6 : q ≤ 6
        · have h6' : ¬ (6 : Int) < (q : Int) := by omega
          have HK2 : Hid (gTo gs (k + 1) = true) := Lib.hid (by rw [gTo, HT.out, E1.out, rowG, ← HQ.out, HZ.out]; simp; exact h6)
          have h7 : decide ((6 : Int) < (q : Int)) = false := decide_eq_false h6'
          clear h6'
          go_wp2
          go_roundw
          case rel => exact ⟨k + 1, by omega, by go_num, HK2, B1⟩
          case measure => simp [intOf]; omega
        · have h6' : (6 : Int) < (q : Int) := by omega
          have HX : Hid (codeS cs gs most share budget = 7) := Lib.hid (by rw [HC.out, gTo_bad hlt (by rw [E1.out, rowG, ← HQ.out, decide_eq_false h6, Bool.and_false]), Bool.and_false, if_pos rfl])
          have h7 : decide ((6 : Int) < (q : Int)) = true := decide_eq_true h6'
          go_wp2
          go_ret
          exact ⟨ret_int HX.out.symm, B1.out⟩
    · obtain rfl : k = m := by omega
      by_cases hnm : k = n
      · have HX : Hid (codeS cs gs most share budget = 0) := Lib.hid (by rw [HC.out, decide_eq_true hnm, HT.out]; rfl)
        have hne : ((k : Int) == n) = true := by simp; omega
        have hne2 : ((k : Int) != n) = false := by rw [bne, hne]; rfl
        clear hnm
        go_wp2
        go_ret
        exact ⟨ret_int HX.out.symm, hb.out⟩
      · have HX : Hid (codeS cs gs most share budget = 7) := Lib.hid (by rw [HC.out, decide_eq_false hnm]; rfl)
        have hne : ((k : Int) == n) = false := by rw [Bool.eq_false_iff]; simp; omega
        have hne2 : ((k : Int) != n) = true := by rw [bne, hne]; rfl
        go_wp2
        go_ret
        exact ⟨ret_int HX.out.symm, hb.out⟩
theorem code_facts (hn : cs.length = n) (hm : gs.length = m) (h : codeS cs gs most share budget = 0) :
    m = n ∧ n ≤ 4 ∧ (∀ x ∈ cs, cordOk x.a0 x.a1 x.a2 x.a3) ∧ (∀ r ∈ gs, r.length ≤ 6 ∧ ∀ z ∈ r, 1 ≤ z ∧ z ≤ 10000) ∧ (0 ≤ most ∧ most ≤ 2000000) ∧ (0 ≤ share ∧ share ≤ 1000) ∧ ∃ bd : Nat, budget = bd ∧ bd ≤ 20000 ∧ findS cs gs most share budget = srch cs gs most share n [] [] 0 ⟨bd, 0, [], 0⟩ := by
  obtain ⟨h1, h2, h3, h4, h5, h6⟩ := code_ok h
  have c := cordsB_t h1
  have b := inB_t h4
  refine ⟨by omega, by omega, c.2, gTo_t h6, inB_t h3, inB_t h2, budget.toNat, by omega, by omega, ?_⟩
  rw [findS, hn]
theorem best_len (hn : cs.length = n) (hm : gs.length = m) (h : codeS cs gs most share budget = 0) {l c : Nat} {best : List Int} {least : Int} (hf : findS cs gs most share budget = some ⟨l, c, best, least⟩) (hc : ¬ c = 0) : best.length ≤ 4 := by
  obtain ⟨hmn, n4, cok, gok, mb, sb, bd, hbd, bd2, hf2⟩ := code_facts n m cs gs most share budget hn hm h
  rw [hf2] at hf
  have := srch_found cs gs most share n [] [] 0 _ _ (by simp [hn]) (by simp [tsF]) (by simp [sumL]) mb.1 (by simp [Ch]) (fun h => by simp at h) hf
  have := (this (by simp; omega)).1
  simp at this
  omega
/-- the reference's search from its start -/
theorem start_SetUp (w : World) (hn : cs.length = n) (hm : gs.length = m) (h : codeS cs gs most share budget = 0) (hl : Rd w w.heap.size 4 LA n (cs.flatMap cordF)) (hg : Rd2 w 0 w.heap.size GA m gs) :
    m = n ∧ ∃ bd : Nat, budget = bd ∧ Calls Try.prog 60 #[.pointer (some ⟨w.heap.size, 0, none⟩), .int .i64 0] (w.alloc (.cells #[.slice LA n lc, .slice GA m gc, .int .i64 most, .int .i64 share, .slice none 0 0, .slice none 0 0, .int .i64 0, .slice none 0 0, .int .i64 0, .int .i64 0, .int .i64 budget] 86))
      (NextE w.heap.size LA GA n lc gc most share bd (w.alloc (.cells #[.slice LA n lc, .slice GA m gc, .int .i64 most, .int .i64 share, .slice none 0 0, .slice none 0 0, .int .i64 0, .slice none 0 0, .int .i64 0, .int .i64 0, .int .i64 budget] 86)) [] [] (.slice none 0 0) (.slice none 0 0) (findS cs gs most share budget)) := by
  obtain ⟨hmn, n4, cok, gok, mb, sb, bd, hbd, bd2, hf⟩ := code_facts n m cs gs most share budget hn hm h
  refine ⟨hmn, bd, hbd, ?_⟩
  rw [hf]
  subst hmn hbd
  have K0 := Blk.new w 86 #[.slice LA m lc, .slice GA m gc, .int .i64 most, .int .i64 share, .slice none 0 0, .slice none 0 0, .int .i64 0, .slice none 0 0, .int .i64 0, .int .i64 0, .int .i64 bd]
  have BA := (Below.refl w.heap.size w).alloc (Nat.le_refl _) (.cells #[.slice LA m lc, .slice GA m gc, .int .i64 most, .int .i64 share, .slice none 0 0, .slice none 0 0, .int .i64 0, .slice none 0 0, .int .i64 0, .int .i64 0, .int .i64 bd] 86)
  exact next_any cs gs w.heap.size LA GA m lc gc most share bd n4 hn cok gok mb.1 mb.2 sb.1 sb.2 m _ [] [] 0 ⟨bd, 0, [], 0⟩ 0 (.slice none 0 0) (.slice none 0 0) (.slice none 0 0) ⟨by simp, rfl, by simp, ⟨K0, own3_nil _ _⟩, hl.below BA, hg.belowB BA, tsOk_nil, by simp, by simp; omega, by omega⟩
/-- the reference's search from its start -/
theorem start_CountSetUps (w : World) (hn : cs.length = n) (hm : gs.length = m) (h : codeS cs gs most share budget = 0) (hl : Rd w w.heap.size 4 LA n (cs.flatMap cordF)) (hg : Rd2 w 0 w.heap.size GA m gs) :
    m = n ∧ ∃ bd : Nat, budget = bd ∧ Calls Try.prog 60 #[.pointer (some ⟨w.heap.size, 0, none⟩), .int .i64 0] (w.alloc (.cells #[.slice LA n lc, .slice GA m gc, .int .i64 most, .int .i64 share, .slice none 0 0, .slice none 0 0, .int .i64 0, .slice none 0 0, .int .i64 0, .int .i64 0, .int .i64 budget] 86))
      (NextE w.heap.size LA GA n lc gc most share bd (w.alloc (.cells #[.slice LA n lc, .slice GA m gc, .int .i64 most, .int .i64 share, .slice none 0 0, .slice none 0 0, .int .i64 0, .slice none 0 0, .int .i64 0, .int .i64 0, .int .i64 budget] 86)) [] [] (.slice none 0 0) (.slice none 0 0) (findS cs gs most share budget)) := by
  obtain ⟨hmn, n4, cok, gok, mb, sb, bd, hbd, bd2, hf⟩ := code_facts n m cs gs most share budget hn hm h
  refine ⟨hmn, bd, hbd, ?_⟩
  rw [hf]
  subst hmn hbd
  have K0 := Blk.new w 86 #[.slice LA m lc, .slice GA m gc, .int .i64 most, .int .i64 share, .slice none 0 0, .slice none 0 0, .int .i64 0, .slice none 0 0, .int .i64 0, .int .i64 0, .int .i64 bd]
  have BA := (Below.refl w.heap.size w).alloc (Nat.le_refl _) (.cells #[.slice LA m lc, .slice GA m gc, .int .i64 most, .int .i64 share, .slice none 0 0, .slice none 0 0, .int .i64 0, .slice none 0 0, .int .i64 0, .int .i64 0, .int .i64 bd] 86)
  exact next_any cs gs w.heap.size LA GA m lc gc most share bd n4 hn cok gok mb.1 mb.2 sb.1 sb.2 m _ [] [] 0 ⟨bd, 0, [], 0⟩ 0 (.slice none 0 0) (.slice none 0 0) (.slice none 0 0) ⟨by simp, rfl, by simp, ⟨K0, own3_nil _ _⟩, hl.below BA, hg.belowB BA, tsOk_nil, by simp, by simp; omega, by omega⟩
set_option maxRecDepth 100000 in
set_option maxHeartbeats 4000000 in
theorem SetUp_s (w : World) (hn : cs.length = n) (hl : Rd w w.heap.size 4 LA n (cs.flatMap cordF)) (hg : Rd2 w 0 w.heap.size GA m gs) (hr : ∀ r ∈ gs, r.length ≤ maxLen) (hn1 : n ≤ 1048576) (hm1 : m ≤ 1048576) :
    Calls Try.prog 29 #[.slice LA n lc, .slice GA m gc, .int .i64 most, .int .i64 share, .int .i64 budget] w (RetB w (SetUp_L cs gs most share budget)) := by
  have CB := l09Begin_any LA GA lc gc n m cs gs most share budget w hn hl hg hr hn1 hm1
  have ST := Lib.hid (fun w1 (hb : Below w.heap.size w w1) (h : codeS cs gs most share budget = 0) => start_SetUp LA GA lc gc n m cs gs most share budget w1 hn hg.1 h (hl.next hb) (hg.next hb))
  have hmm := Lib.hid hg.1
  have hnn := Lib.hid hn
  clear hn hl hg hr
  obtain ⟨code, hcode⟩ : ∃ c, c = codeS cs gs most share budget := ⟨_, rfl⟩
  obtain ⟨f, hf⟩ : ∃ f, f = findS cs gs most share budget := ⟨_, rfl⟩
  rw [← hcode, ← hf] at ST
  rw [← hcode] at CB
  by_cases h0 : code = 0
  · have HC := Lib.hid (hcode.symm.trans h0)
    have HF := Lib.hid hf
    subst h0
    clear hcode hf
    go_enter Try.func29, Try.ntmps29
    go_wp2_with fail
    refine CB.mono ?_
    rintro e w1 ⟨rfl, hb1⟩
    obtain ⟨hmn, bd, hbd, CS⟩ := ST.out w1 hb1 (by first | rfl | trivial)
    subst hmn hbd
    have B1 := Lib.hid hb1
    have hs1 := hb1.size
    clear CB hb1
    go_upto_region 5 with fail
    have KX := Lib.hid (Blk.new w1 86 #[.slice LA m lc, .slice GA m gc, .int .i64 most, .int .i64 share, .slice none 0 0, .slice none 0 0, .int .i64 0, .slice none 0 0, .int .i64 0, .int .i64 0, .int .i64 bd])
    have B2 := Lib.hid (below_more B1.out ((Below.refl w1.heap.size w1).alloc (Nat.le_refl _) (.cells #[.slice LA m lc, .slice GA m gc, .int .i64 most, .int .i64 share, .slice none 0 0, .slice none 0 0, .int .i64 0, .slice none 0 0, .int .i64 0, .int .i64 0, .int .i64 bd] 86)) (Nat.le_refl _))
    obtain ⟨g, hg⟩ : ∃ g, g = w1.heap.size := ⟨_, rfl⟩
    rw [← hg] at CS KX hs1 ⊢
    clear hg
    generalize w1.alloc (.cells #[.slice LA m lc, .slice GA m gc, .int .i64 most, .int .i64 share, .slice none 0 0, .slice none 0 0, .int .i64 0, .slice none 0 0, .int .i64 0, .int .i64 0, .int .i64 bd] 86) = w2 at CS KX B2 ⊢
    go_wp2_with fail
    refine CS.mono ?_
    rintro e w3 ⟨rfl, hfr, hst⟩
    have B3 := Lib.hid (B2.out.trans ((hfr.below KX.out.lt (fun k hk => by simp [Value.ownBlock] at hk) (fun k hk => by simp [Value.ownBlock] at hk)).mono hs1))
    clear CS hfr
    cases f with
    | none =>
      have HE : Hid (SetUp_L cs gs most share bd = ([], 0, 5)) := Lib.hid (by rw [SetUp_L, if_pos HC.out, ← HF.out])
      clear hst
      go_wp2
      go_ret3
      exact ⟨_, by rw [HE.out]; rfl, by rw [HE.out]; exact World.ownsRow_nil _ _ _ _, B3.out⟩
    | some s =>
      obtain ⟨nodes, v1, v2, v3, _, ⟨K, O⟩, _, _⟩ := hst s rfl
      obtain ⟨left, count, best, least⟩ := s
      clear hst
      by_cases hc0 : count = 0
      · have HE : Hid (SetUp_L cs gs most share bd = ([], 0, 3)) := Lib.hid (by rw [SetUp_L, if_pos HC.out, ← HF.out]; simp [hc0])
        subst hc0
        have hc := K.cell
        go_wp2
        go_ret3
        exact ⟨_, by rw [HE.out]; rfl, by rw [HE.out]; exact World.ownsRow_nil _ _ _ _, B3.out⟩
      · have HE : Hid (SetUp_L cs gs most share bd = (best, least, 0)) := Lib.hid (by rw [SetUp_L, if_pos HC.out, ← HF.out]; simp [hc0])
        have z2 : ((count : Int) == 0) = false := by rw [Bool.eq_false_iff]; simp; omega
        have hc := K.cell
        obtain ⟨Ab, cb, rfl⟩ := own_val O.o3
        have bl : best.length ≤ 4 := by
          have := best_len m m cs gs most share bd hnn.out hmm.out HC.out HF.out.symm hc0
          omega
        have o3 := O.o3
        have HK := Lib.hid K.drew
        have H3 : Hid (w3.drew.ownsRow (g + 1) 2 1 (.slice Ab best.length cb) best.length (iv best)) := Lib.hid o3
        have B3 : Hid (Below w.heap.size w w3.drew) := Lib.hid (below_drew B3.out)
        obtain ⟨bn, hbn⟩ : ∃ bn, bn = best.length := ⟨_, rfl⟩
        rw [← hbn] at hc bl H3 HK
        have HBN := Lib.hid hbn
        clear K O o3 hbn hc0
        go_upto_region 9 with fail
        clear hc
        refine wp_region_S (S26 g 7 g 8 (.slice Ab bn cb) (.int .i64 least)) 10 (by kernel_rfl) ?_
        generalize w3.drew = wd at HK H3 B3 ⊢
        have HS : S26 g 7 g 8 (.slice Ab bn cb) (.int .i64 least) wd := ⟨HK.out.cell 7, HK.out.cell 8, trivial⟩
        (refine wpAnyS_take0 0 ?_ rfl (by kernel_rfl) (by kernel_rfl) (by kernel_rfl) (by kernel_rfl) (fun _ _ _ h => h) (by rfl) ?_ (fun _ => HS) ?_; rotate_left; (· (intro w; go_simp; (try with_reducible rfl))); try simp only [Act.put, List.setIfInBounds_toArray, List.set_cons_zero, List.set_cons_succ])
        (refine wpAnyS_take0 1 ?_ rfl (by kernel_rfl) (by kernel_rfl) (by kernel_rfl) (by kernel_rfl) (fun _ _ _ h => h) (by rfl) ?_ (fun _ => HS) ?_; rotate_left; (· (intro w; go_simp; (try with_reducible rfl))); try simp only [Act.put, List.setIfInBounds_toArray, List.set_cons_zero, List.set_cons_succ])
        (refine wpAnyS_take0 2 ?_ rfl (by kernel_rfl) (by kernel_rfl) (by kernel_rfl) (by kernel_rfl) (fun _ _ _ h => h) (by rfl) ?_ (fun _ => HS) ?_; rotate_left; (· (intro w; go_simp; (try with_reducible rfl))); try simp only [Act.put, List.setIfInBounds_toArray, List.set_cons_zero, List.set_cons_succ])
        (refine wpAnyS_take 3 ?_ rfl (by kernel_rfl) (by kernel_rfl) (by kernel_rfl) (by kernel_rfl) (by kernel_rfl) (by kernel_rfl) (fun _ _ _ h => h) (by rfl) ?_ HS ?_; rotate_left; (· (intro w hSw; obtain ⟨s1, s2, s3⟩ := hSw; go_simp; (try with_reducible rfl))); try simp only [Act.put, List.setIfInBounds_toArray, List.set_cons_zero, List.set_cons_succ])
        (refine wpAnyS_take0 5 ?_ rfl (by kernel_rfl) (by kernel_rfl) (by kernel_rfl) (by kernel_rfl) (fun _ _ _ h => h) (by rfl) ?_ (fun _ => HS) ?_; rotate_left; (· (intro w; go_simp; (try with_reducible rfl))); try simp only [Act.put, List.setIfInBounds_toArray, List.set_cons_zero, List.set_cons_succ])
        (refine wpAnyS_take0 6 ?_ rfl (by kernel_rfl) (by kernel_rfl) (by kernel_rfl) (by kernel_rfl) (fun _ _ _ h => h) (by rfl) ?_ (fun _ => HS) ?_; rotate_left; (· (intro w; go_simp; (try with_reducible rfl))); try simp only [Act.put, List.setIfInBounds_toArray, List.set_cons_zero, List.set_cons_succ])
        (refine wpAnyS_take0 7 ?_ rfl (by kernel_rfl) (by kernel_rfl) (by kernel_rfl) (by kernel_rfl) (fun _ _ _ h => h) (by rfl) ?_ (fun _ => HS) ?_; rotate_left; (· (intro w; go_simp; (try with_reducible rfl))); try simp only [Act.put, List.setIfInBounds_toArray, List.set_cons_zero, List.set_cons_succ])
        (refine wpAnyS_take 8 ?_ rfl (by kernel_rfl) (by kernel_rfl) (by kernel_rfl) (by kernel_rfl) (by kernel_rfl) (by kernel_rfl) (fun _ _ _ h => h) (by rfl) ?_ HS ?_; rotate_left; (· (intro w hSw; obtain ⟨s1, s2, s3⟩ := hSw; go_simp; (try with_reducible rfl))); try simp only [Act.put, List.setIfInBounds_toArray, List.set_cons_zero, List.set_cons_succ])
        refine wpAnyS_one 4 rfl (by kernel_rfl) (by rfl) ?_
        intro K hK
        have CC := l00Own_own (g + 1) bn cb Ab best wd H3.out (by omega)
        go_simp
        refine CC.mono ?_
        rintro r w4 ⟨v, rfl, hv, hb4⟩
        have sz := B3.out.size
        have B4 := Lib.hid (below_more B3.out hb4 (Nat.le_refl _))
        have V4 := Lib.hid (hv.mono (base' := w.heap.size) sz)
        have K4 := Lib.hid (HK.out.below hb4 HK.out.lt)
        have HS : S26 g 7 g 8 (.slice Ab bn cb) (.int .i64 least) w4 := ⟨K4.out.cell 7, K4.out.cell 8, trivial⟩
        refine hK _ _ (fun _ => HS) ?_
        clear hK CC hv hb4
        try simp only [Act.put, List.setIfInBounds_toArray, List.set_cons_zero, List.set_cons_succ]
        (refine wpAnyS_take0 9 ?_ rfl (by kernel_rfl) (by kernel_rfl) (by kernel_rfl) (by kernel_rfl) (fun _ _ _ h => h) (by rfl) ?_ (fun _ => HS) ?_; rotate_left; (· (intro w; go_simp; (try with_reducible rfl))); try simp only [Act.put, List.setIfInBounds_toArray, List.set_cons_zero, List.set_cons_succ])
        refine wpAnyS_one 10 rfl (by kernel_rfl) (by rfl) ?_
        intro K hK
        go_simp
        refine hK _ _ (fun h => absurd h (by decide +kernel)) ?_
        clear hK
        refine wpAnyS_one 11 rfl (by kernel_rfl) (by rfl) ?_
        intro K hK
        go_simp
        refine hK _ _ (fun h => absurd h (by decide +kernel)) ?_
        clear hK
        refine wpAnyS_done (by kernel_rfl) ?_
        go_wp2_with fail
        go_ret3
        exact ⟨v, by rw [HE.out]; rfl, by rw [HE.out]; rw [HBN.out] at V4; exact V4.out, B4.out⟩
  · have HE : Hid (SetUp_L cs gs most share budget = ([], 0, code)) := Lib.hid (by rw [SetUp_L, if_neg (by rw [← hcode]; exact h0), ← hcode])
    have z1 : (code == 0) = false := by rw [Bool.eq_false_iff]; simp; exact h0
    have z2 : (code != 0) = true := by rw [bne, z1]; rfl
    clear hcode hf h0 ST
    go_enter Try.func29, Try.ntmps29
    go_wp2_with fail
    refine CB.mono ?_
    rintro e w1 ⟨rfl, hb⟩
    clear CB
    go_wp2
    go_ret3
    exact ⟨_, by rw [HE.out]; rfl, by rw [HE.out]; exact World.ownsRow_nil _ _ _ _, hb⟩
set_option maxRecDepth 100000 in
set_option maxHeartbeats 4000000 in
theorem CountSetUps_s (w : World) (hn : cs.length = n) (hl : Rd w w.heap.size 4 LA n (cs.flatMap cordF)) (hg : Rd2 w 0 w.heap.size GA m gs) (hr : ∀ r ∈ gs, r.length ≤ maxLen) (hn1 : n ≤ 1048576) (hm1 : m ≤ 1048576) :
    Calls Try.prog 24 #[.slice LA n lc, .slice GA m gc, .int .i64 most, .int .i64 share, .int .i64 budget] w (RetN w (CountSetUps_L cs gs most share budget)) := by
  have CB := l09Begin_any LA GA lc gc n m cs gs most share budget w hn hl hg hr hn1 hm1
  have ST := Lib.hid (fun w1 (hb : Below w.heap.size w w1) (h : codeS cs gs most share budget = 0) => start_CountSetUps LA GA lc gc n m cs gs most share budget w1 hn hg.1 h (hl.next hb) (hg.next hb))
  clear hn hl hg hr
  obtain ⟨code, hcode⟩ : ∃ c, c = codeS cs gs most share budget := ⟨_, rfl⟩
  obtain ⟨f, hf⟩ : ∃ f, f = findS cs gs most share budget := ⟨_, rfl⟩
  rw [← hcode, ← hf] at ST
  rw [← hcode] at CB
  by_cases h0 : code = 0
  · have HC := Lib.hid (hcode.symm.trans h0)
    have HF := Lib.hid hf
    subst h0
    clear hcode hf
    go_enter Try.func24, Try.ntmps24
    go_wp2_with fail
    refine CB.mono ?_
    rintro e w1 ⟨rfl, hb1⟩
    obtain ⟨hmn, bd, hbd, CS⟩ := ST.out w1 hb1 (by first | rfl | trivial)
    subst hmn hbd
    have B1 := Lib.hid hb1
    have hs1 := hb1.size
    clear CB hb1
    go_upto_region 5 with fail
    have KX := Lib.hid (Blk.new w1 86 #[.slice LA m lc, .slice GA m gc, .int .i64 most, .int .i64 share, .slice none 0 0, .slice none 0 0, .int .i64 0, .slice none 0 0, .int .i64 0, .int .i64 0, .int .i64 bd])
    have B2 := Lib.hid (below_more B1.out ((Below.refl w1.heap.size w1).alloc (Nat.le_refl _) (.cells #[.slice LA m lc, .slice GA m gc, .int .i64 most, .int .i64 share, .slice none 0 0, .slice none 0 0, .int .i64 0, .slice none 0 0, .int .i64 0, .int .i64 0, .int .i64 bd] 86)) (Nat.le_refl _))
    obtain ⟨g, hg⟩ : ∃ g, g = w1.heap.size := ⟨_, rfl⟩
    rw [← hg] at CS KX hs1 ⊢
    clear hg
    generalize w1.alloc (.cells #[.slice LA m lc, .slice GA m gc, .int .i64 most, .int .i64 share, .slice none 0 0, .slice none 0 0, .int .i64 0, .slice none 0 0, .int .i64 0, .int .i64 0, .int .i64 bd] 86) = w2 at CS KX B2 ⊢
    go_wp2_with fail
    refine CS.mono ?_
    rintro e w3 ⟨rfl, hfr, hst⟩
    have B3 := Lib.hid (B2.out.trans ((hfr.below KX.out.lt (fun k hk => by simp [Value.ownBlock] at hk) (fun k hk => by simp [Value.ownBlock] at hk)).mono hs1))
    clear CS hfr
    cases f with
    | none =>
      have HE : Hid (CountSetUps_L cs gs most share bd = (0, 5)) := Lib.hid (by rw [CountSetUps_L, if_pos HC.out, ← HF.out])
      clear hst
      go_wp2
      go_ret2
      exact ⟨by rw [HE.out]; rfl, B3.out⟩
    | some s =>
      obtain ⟨nodes, v1, v2, v3, _, ⟨K, O⟩, _, _⟩ := hst s rfl
      obtain ⟨left, count, best, least⟩ := s
      have HE : Hid (CountSetUps_L cs gs most share bd = ((count : Int), 0)) := Lib.hid (by rw [CountSetUps_L, if_pos HC.out, ← HF.out])
      have hc := K.cell
      clear hst
      go_wp2
      go_ret2
      exact ⟨by rw [HE.out]; rfl, B3.out⟩
  · have HE : Hid (CountSetUps_L cs gs most share budget = (0, code)) := Lib.hid (by rw [CountSetUps_L, if_neg (by rw [← hcode]; exact h0), ← hcode])
    have z1 : (code == 0) = false := by rw [Bool.eq_false_iff]; simp; exact h0
    have z2 : (code != 0) = true := by rw [bne, z1]; rfl
    clear hcode hf h0 ST
    go_enter Try.func24, Try.ntmps24
    go_wp2_with fail
    refine CB.mono ?_
    rintro e w1 ⟨rfl, hb⟩
    clear CB
    go_wp2
    go_ret2
    exact ⟨by rw [HE.out]; rfl, hb⟩
end
end Go.Proofs.Ytemkggecempmgaa
