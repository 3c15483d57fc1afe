/- Set-ups of strings: setUps, SetUp and CountSetUps, the program's and the reference's. -/
import Derived.Test.YtemkggecempmgaaSetVal
import Derived.Test.YtemkggecempmgaaSearchK
import Derived.Test.YtemkggecempmgaaNextJ
set_option linter.unusedVariables false
namespace Go.Proofs.Ytemkggecempmgaa
open Go.RowKit

/-- the code of a search -/
def codeS (cs : List CordD) (gs : List (List Int)) (most share budget : Int) : Int :=
  if cordsB cs = false then 1 else if (inB share 0 1000 && (inB most 0 2000000 && inB budget 1 20000)) = false then 2 else if (decide (gs.length = cs.length) && gTo gs gs.length) = false then 7 else 0
/-- what the search finds -/
def findS (cs : List CordD) (gs : List (List Int)) (most share budget : Int) : Option SSt := srch cs gs most share cs.length [] [] 0 ⟨budget.toNat, 0, [], 0⟩
def SetUp_L (cs : List CordD) (gs : List (List Int)) (most share budget : Int) : List Int × Int × Int :=
  if codeS cs gs most share budget = 0 then
    match findS cs gs most share budget with
    | none => ([], 0, 5)
    | some s => if s.count = 0 then ([], 0, 3) else (s.best, s.least, 0)
  else ([], 0, codeS cs gs most share budget)
def CountSetUps_L (cs : List CordD) (gs : List (List Int)) (most share budget : Int) : Int × Int :=
  if codeS cs gs most share budget = 0 then
    match findS cs gs most share budget with
    | none => (0, 5)
    | some s => (s.count, 0)
  else (0, codeS cs gs most share budget)
theorem code_ok {cs : List CordD} {gs : List (List Int)} {most share budget : Int} (h : codeS cs gs most share budget = 0) :
    cordsB cs = true ∧ inB share 0 1000 = true ∧ inB most 0 2000000 = true ∧ inB budget 1 20000 = true ∧ gs.length = cs.length ∧ gTo gs gs.length = true := by
  unfold codeS at h
  split at h
  · cases h
  split at h
  · cases h
  split at h
  · cases h
  · rename_i h1 h2 h3
    simp at h1 h2 h3
    exact ⟨h1, h2.1, h2.2.1, h2.2.2, h3.1, h3.2⟩
def RetB (w : World) (r : List Int × Int × Int) (e : Ending) (w' : World) : Prop :=
  ∃ v, e = .returned (.tuple #[v, .int .i64 r.2.1, .int .i64 r.2.2]) ∧ w'.ownsRow w.heap.size 2 1 v r.1.length (iv r.1) ∧ Below w.heap.size w w'
def RetN (w : World) (r : Int × Int) (e : Ending) (w' : World) : Prop := e = .returned (.tuple #[.int .i64 r.1, .int .i64 r.2]) ∧ Below w.heap.size w w'
/-- what setUps answers -/
def RetU (LA GA : Option Addr) (n lc gc : Nat) (most share : Int) (w : World) (code : Int) (r : Option SSt) (e : Ending) (w' : World) : Prop :=
  (code ≠ 0 → e = .returned (.tuple #[.pointer none, .int .i64 code]) ∧ Below w.heap.size w w') ∧
  (code = 0 → r = none → e = .returned (.tuple #[.pointer none, .int .i64 5]) ∧ Below w.heap.size w w') ∧
  (code = 0 → ∀ s, r = some s → ∃ (g : Nat) (v1 v2 v3 : Value), e = .returned (.tuple #[.pointer (some ⟨g, 0, none⟩), .int .i64 0]) ∧ w.heap.size ≤ g ∧ SetAt g LA GA n lc gc most share w' [] [] 0 s v1 v2 v3 ∧ Below w.heap.size w w')
theorem own3_nil (w : World) (L : Nat) : Own3 w L (.slice none 0 0) (.slice none 0 0) (.slice none 0 0) [] [] [] :=
  ⟨World.ownsRow_nil _ _ _ _, World.ownsRow_nil _ _ _ _, World.ownsRow_nil _ _ _ _, fun k hk => by simp [Value.ownBlock] at hk, fun k hk => by simp [Value.ownBlock] at hk, fun k hk => by simp [Value.ownBlock] at hk⟩
section
variable (LA GA : Option Addr) (lc gc n m : Nat) (cs : List CordD) (gs : List (List Int)) (most share budget : Int)
set_option maxRecDepth 100000 in
set_option maxHeartbeats 4000000 in
theorem setUps_any (w : World) (hn : cs.length = n) (hl : Rd w w.heap.size 4 LA n (cs.flatMap cordF)) (hg : Rd2 w 0 w.heap.size GA m gs) (hr : ∀ r ∈ gs, r.length ≤ maxLen) (hn1 : n ≤ 1048576) (hm1 : m ≤ 1048576) :
    Calls Try.prog 48 #[.slice LA n lc, .slice GA m gc, .int .i64 most, .int .i64 share, .int .i64 budget] w (RetU LA GA n lc gc most share w (codeS cs gs most share budget) (findS cs gs most share budget)) := by
  have HN := Lib.hid hn
  have HM := Lib.hid hg.1
  have CV := validCords_any LA lc n cs w hn hl hn1
  have HL := Lib.hid hl
  have HG := Lib.hid hg
  have HR := Lib.hid hr
  clear hn hl hg hr
  cases hcb : cordsB cs
  · have HE : Hid (codeS cs gs most share budget = 1) := Lib.hid (by rw [codeS, if_pos hcb])
    rw [hcb] at CV
    clear hcb
    go_enter Try.func48, Try.ntmps48
    go_wp2_with fail
    refine CV.mono ?_
    rintro r w1 ⟨rfl, hb1⟩
    clear CV
    go_wp2
    go_ret2
    exact ⟨fun _ => ⟨by rw [HE.out]; rfl, hb1⟩, fun h => (by rw [HE.out] at h; cases h), fun h => (by rw [HE.out] at h; cases h)⟩
  rw [hcb] at CV
  have HCB := Lib.hid hcb
  clear hcb
  have early : ∀ b1 b2 b3 : Bool, inB share 0 1000 = b1 → inB most 0 2000000 = b2 → inB budget 1 20000 = b3 → (b1 && (b2 && b3)) = false → Calls Try.prog 48 #[.slice LA n lc, .slice GA m gc, .int .i64 most, .int .i64 share, .int .i64 budget] w (RetU LA GA n lc gc most share w (codeS cs gs most share budget) (findS cs gs most share budget)) := by
    intro b1 b2 b3 h1 h2 h3 h4
    have HE : Hid (codeS cs gs most share budget = 2) := Lib.hid (by rw [codeS, if_neg (by rw [HCB.out]; decide), if_pos (by rw [h1, h2, h3]; exact h4)])
    cases b1 <;> cases b2 <;> cases b3 <;> first | (exact absurd h4 (by decide)) | skip
    all_goals
      clear h4
      go_enter Try.func48, Try.ntmps48
      go_wp2_with fail
      refine CV.mono ?_
      rintro r w1 ⟨rfl, hb1⟩
      clear CV
      go_wp2_with (first | (go_at_call 51; refine (isShare_any _ _).mono ?_; rintro e w' ⟨rfl, rfl⟩) | (go_at_call 66; refine (within_any _ _ _ _).mono ?_; rintro e w' ⟨rfl, rfl⟩))
      go_ret2
      exact ⟨fun _ => ⟨by rw [HE.out]; rfl, hb1⟩, fun h => (by rw [HE.out] at h; cases h), fun h => (by rw [HE.out] at h; cases h)⟩
  cases h1 : inB share 0 1000
  · exact early _ _ _ h1 rfl rfl rfl
  cases h2 : inB most 0 2000000
  · exact early _ _ _ h1 h2 rfl (by simp)
  cases h3 : inB budget 1 20000
  · exact early _ _ _ h1 h2 h3 rfl
  clear early
  have s1 := inB_t h1
  have s2 := inB_t h2
  have s3 := inB_t h3
  have CG := Lib.hid (fun w1 (hb : Below w.heap.size w w1) => areGauges_any LA GA lc gc n m gs w1 (HG.out.next hb) hm1 HR.out hn1)
  cases hga : (decide (m = n) && gTo gs m)
  · have HE : Hid (codeS cs gs most share budget = 7) := Lib.hid (by rw [codeS, if_neg (by rw [HCB.out]; decide), if_neg (by rw [h1, h2, h3]; decide), HM.out, HN.out, if_pos hga])
    rw [hga] at CG
    clear hga s1 s2 s3
    go_enter Try.func48, Try.ntmps48
    go_wp2_with fail
    refine CV.mono ?_
    rintro r w1 ⟨rfl, hb1⟩
    have CG1 := CG.out w1 hb1
    clear CV
    go_wp2_with (first | (go_at_call 51; refine (isShare_any _ _).mono ?_; rintro e w' ⟨rfl, rfl⟩) | (go_at_call 66; refine (within_any _ _ _ _).mono ?_; rintro e w' ⟨rfl, rfl⟩) | (go_at_call 81; refine (CG1).mono ?_; rintro e w' ⟨rfl, rfl⟩))
    go_ret2
    exact ⟨fun _ => ⟨by rw [HE.out]; rfl, hb1⟩, fun h => (by rw [HE.out] at h; cases h), fun h => (by rw [HE.out] at h; cases h)⟩
  · have HE : Hid (codeS cs gs most share budget = 0) := Lib.hid (by rw [codeS, if_neg (by rw [HCB.out]; decide), if_neg (by rw [h1, h2, h3]; decide), HM.out, HN.out, if_neg (by rw [hga]; decide)])
    have gg := hga
    rw [Bool.and_eq_true] at gg
    have hmn : m = n := of_decide_eq_true gg.1
    have hgt := gg.2
    rw [hga] at CG
    subst hmn
    have GT := gTo_t (gs := gs) (by rw [HM.out]; exact hgt)
    have CT := cordsB_t HCB.out
    rw [HN.out] at CT
    obtain ⟨bd, hbd⟩ : ∃ bd : Nat, budget = bd := ⟨budget.toNat, by omega⟩
    subst hbd
    have HF : Hid (findS cs gs most share (bd : Int) = srch cs gs most share m [] [] 0 ⟨bd, 0, [], 0⟩) := Lib.hid (by rw [findS, HN.out]; rfl)
    have HCT := Lib.hid CT.2
    have HGT := Lib.hid GT
    have n4 := CT.1
    clear hga gg hgt GT CT
    go_enter Try.func48, Try.ntmps48
    go_wp2_with fail
    refine CV.mono ?_
    rintro r w1 ⟨rfl, hb1⟩
    have CG1 := CG.out w1 hb1
    have hs1 := hb1.size
    have B1 := Lib.hid hb1
    clear CV hb1
    have K0 := Blk.new w1 75 #[.slice LA m lc, .slice GA m gc, .int .i64 most, .int .i64 share, .int .i64 bd, .slice none 0 0, .slice none 0 0, .int .i64 0, .int .i64 0, .slice none 0 0, .int .i64 0]
    have BA := (Below.refl w1.heap.size w1).alloc (Nat.le_refl _) (.cells #[.slice LA m lc, .slice GA m gc, .int .i64 most, .int .i64 share, .int .i64 bd, .slice none 0 0, .slice none 0 0, .int .i64 0, .int .i64 0, .slice none 0 0, .int .i64 0] 75)
    have RL := Lib.hid ((HL.out.next B1.out).below BA)
    have RG := Lib.hid ((HG.out.next B1.out).belowB BA)
    have B2 := Lib.hid (below_more B1.out BA (Nat.le_refl _))
    obtain ⟨g, hg⟩ : ∃ g, g = w1.heap.size := ⟨_, rfl⟩
    have hgs : w.heap.size ≤ g := by omega
    rw [← hg] at K0 RL RG
    go_upto_region 8 with (first | (go_at_call 51; refine (isShare_any _ _).mono ?_; rintro e w' ⟨rfl, rfl⟩) | (go_at_call 66; refine (within_any _ _ _ _).mono ?_; rintro e w' ⟨rfl, rfl⟩) | (go_at_call 81; refine (CG1).mono ?_; rintro e w' ⟨rfl, rfl⟩))
    rw [← hg]
    clear CG1 BA hg h1 h2 h3
    generalize w1.alloc (.cells #[.slice LA m lc, .slice GA m gc, .int .i64 most, .int .i64 share, .int .i64 bd, .slice none 0 0, .slice none 0 0, .int .i64 0, .int .i64 0, .slice none 0 0, .int .i64 0] 75) = w2 at K0 RL RG B2 ⊢
    have CS := search_any cs gs g LA GA m lc gc most share n4 HN.out HCT.out HGT.out s2.1 s2.2 s1.1 s1.2 m w2 [] [] 0 ⟨bd, 0, [], 0⟩ (.slice none 0 0) (.slice none 0 0) (.slice none 0 0) ⟨by simp, rfl, ⟨K0, own3_nil _ _⟩, RL.out, RG.out, tsOk_nil, by simp, by simp; omega⟩
    have hgl := K0.lt
    rw [← HF.out] at CS
    obtain ⟨r, hr⟩ : ∃ r, r = findS cs gs most share (bd : Int) := ⟨_, rfl⟩
    rw [← hr] at CS
    have HRR := Lib.hid hr
    clear hr
    have K0 := Lib.hid K0
    go_wp2_with fail
    refine CS.mono ?_
    rintro e w3 ⟨st', v1, v2, v3, rfl, hst, hsa, hf, _, _⟩
    have B3 := Lib.hid (hf.below hgl (fun k hk => by simp [Value.ownBlock] at hk) (fun k hk => by simp [Value.ownBlock] at hk))
    have SA := Lib.hid hsa
    have ST := Lib.hid hst
    have B4 : Hid (Below w.heap.size w w3) := Lib.hid (B2.out.trans (B3.out.mono hgs))
    clear CS hst hsa hf
    cases r with
    | none =>
      go_wp2
      go_ret2
      exact ⟨fun h => absurd HE.out h, fun _ _ => ⟨rfl, B4.out⟩, fun _ s h => (by rw [← HRR.out] at h; cases h)⟩
    | some s =>
      have e2 : st' = s := ST.out s rfl
      subst e2
      go_wp2
      go_ret2
      exact ⟨fun h => absurd HE.out h, fun _ h => (by rw [← HRR.out] at h; cases h), fun _ s2 h => (by rw [← HRR.out] at h; injection h with h; subst h; exact ⟨g, v1, v2, v3, rfl, hgs, SA.out, B4.out⟩)⟩
set_option maxHeartbeats 4000000 in
theorem SetUp_i (w : World) (hn : cs.length = n) (hl : Rd w w.heap.size 4 LA n (cs.flatMap cordF)) (hg : Rd2 w 0 w.heap.size GA m gs) (hr : ∀ r ∈ gs, r.length ≤ maxLen) (hn1 : n ≤ 1048576) (hm1 : m ≤ 1048576) :
    Calls Try.prog 13 #[.slice LA n lc, .slice GA m gc, .int .i64 most, .int .i64 share, .int .i64 budget] w (RetB w (SetUp_L cs gs most share budget)) := by
  have CU := setUps_any LA GA lc gc n m cs gs most share budget w hn hl hg hr hn1 hm1
  clear hn hl hg hr
  obtain ⟨code, hcode⟩ : ∃ c, c = codeS cs gs most share budget := ⟨_, rfl⟩
  obtain ⟨f, hf⟩ : ∃ f, f = findS cs gs most share budget := ⟨_, rfl⟩
  rw [← hcode, ← hf] at CU
  by_cases h0 : code = 0
  · cases f with
    | none =>
      have HE : Hid (SetUp_L cs gs most share budget = ([], 0, 5)) := Lib.hid (by rw [SetUp_L, if_pos (by rw [← hcode]; exact h0), ← hf])
      subst h0
      clear hcode hf
      go_enter Try.func13, Try.ntmps13
      go_wp2_with fail
      refine CU.mono ?_
      rintro e w1 ⟨_, h2, _⟩
      obtain ⟨rfl, hb⟩ := h2 rfl rfl
      clear CU h2
      go_wp2
      go_ret3
      exact ⟨_, by rw [HE.out]; rfl, by rw [HE.out]; exact World.ownsRow_nil _ _ _ _, hb⟩
    | some s =>
      obtain ⟨left, count, best, least⟩ := s
      by_cases hc : count = 0
      · have HE : Hid (SetUp_L cs gs most share budget = ([], 0, 3)) := Lib.hid (by rw [SetUp_L, if_pos (by rw [← hcode]; exact h0), ← hf]; simp [hc])
        subst h0 hc
        clear hcode hf
        go_enter Try.func13, Try.ntmps13
        go_wp2_with fail
        refine CU.mono ?_
        rintro e w1 ⟨_, _, h3⟩
        obtain ⟨g, v1, v2, v3, rfl, hgs, ⟨K, O⟩, hb⟩ := h3 rfl _ rfl
        have hc := K.cell
        clear CU h3
        go_wp2
        go_ret3
        exact ⟨_, by rw [HE.out]; rfl, by rw [HE.out]; exact World.ownsRow_nil _ _ _ _, hb⟩
      · have HE : Hid (SetUp_L cs gs most share budget = (best, least, 0)) := Lib.hid (by rw [SetUp_L, if_pos (by rw [← hcode]; exact h0), ← hf]; simp [hc])
        have z2 : ((count : Int) == 0) = false := by rw [Bool.eq_false_iff]; simp; omega
        subst h0
        clear hcode hf hc
        go_enter Try.func13, Try.ntmps13
        go_wp2_with fail
        refine CU.mono ?_
        rintro e w1 ⟨_, _, h3⟩
        obtain ⟨g, v1, v2, v3, rfl, hgs, ⟨K, O⟩, hb⟩ := h3 rfl _ rfl
        have hc := K.cell
        have O3 := Lib.hid (O.o3.mono (base' := w.heap.size) (by omega))
        have HB := Lib.hid hb
        have HK := Lib.hid K
        clear CU h3 O K hb hgs
        go_wp2_with fail
        go_quiet (fail)
        go_wp2
        go_ret3
        exact ⟨v3, by rw [HE.out]; rfl, by rw [HE.out]; exact O3.out, below_drewN HB.out _⟩
  · have HE : Hid (SetUp_L cs gs most share budget = ([], 0, code)) := Lib.hid (by rw [SetUp_L, if_neg (by rw [← hcode]; exact h0), ← hcode])
    have z1 : (code == 0) = false := by rw [Bool.eq_false_iff]; simp; exact h0
    have z2 : (code != 0) = true := by rw [bne, z1]; rfl
    have H0 := Lib.hid h0
    clear hcode hf h0
    go_enter Try.func13, Try.ntmps13
    go_wp2_with fail
    refine CU.mono ?_
    rintro e w1 ⟨h1, _, _⟩
    obtain ⟨rfl, hb⟩ := h1 H0.out
    clear CU h1
    go_wp2
    go_ret3
    exact ⟨_, by rw [HE.out]; rfl, by rw [HE.out]; exact World.ownsRow_nil _ _ _ _, hb⟩
set_option maxHeartbeats 4000000 in
theorem CountSetUps_i (w : World) (hn : cs.length = n) (hl : Rd w w.heap.size 4 LA n (cs.flatMap cordF)) (hg : Rd2 w 0 w.heap.size GA m gs) (hr : ∀ r ∈ gs, r.length ≤ maxLen) (hn1 : n ≤ 1048576) (hm1 : m ≤ 1048576) :
    Calls Try.prog 14 #[.slice LA n lc, .slice GA m gc, .int .i64 most, .int .i64 share, .int .i64 budget] w (RetN w (CountSetUps_L cs gs most share budget)) := by
  have CU := setUps_any LA GA lc gc n m cs gs most share budget w hn hl hg hr hn1 hm1
  clear hn hl hg hr
  obtain ⟨code, hcode⟩ : ∃ c, c = codeS cs gs most share budget := ⟨_, rfl⟩
  obtain ⟨f, hf⟩ : ∃ f, f = findS cs gs most share budget := ⟨_, rfl⟩
  rw [← hcode, ← hf] at CU
  by_cases h0 : code = 0
  · cases f with
    | none =>
      have HE : Hid (CountSetUps_L cs gs most share budget = (0, 5)) := Lib.hid (by rw [CountSetUps_L, if_pos (by rw [← hcode]; exact h0), ← hf])
      subst h0
      clear hcode hf
      go_enter Try.func14, Try.ntmps14
      go_wp2_with fail
      refine CU.mono ?_
      rintro e w1 ⟨_, h2, _⟩
      obtain ⟨rfl, hb⟩ := h2 rfl rfl
      clear CU h2
      go_wp2
      go_ret2
      exact ⟨by rw [HE.out]; rfl, hb⟩
    | some s =>
      obtain ⟨left, count, best, least⟩ := s
      have HE : Hid (CountSetUps_L cs gs most share budget = ((count : Int), 0)) := Lib.hid (by rw [CountSetUps_L, if_pos (by rw [← hcode]; exact h0), ← hf])
      subst h0
      clear hcode hf
      go_enter Try.func14, Try.ntmps14
      go_wp2_with fail
      refine CU.mono ?_
      rintro e w1 ⟨_, _, h3⟩
      obtain ⟨g, v1, v2, v3, rfl, hgs, ⟨K, O⟩, hb⟩ := h3 rfl _ rfl
      have hc := K.cell
      clear CU h3
      go_wp2
      go_ret2
      exact ⟨by rw [HE.out]; rfl, hb⟩
  · have HE : Hid (CountSetUps_L cs gs most share budget = (0, code)) := Lib.hid (by rw [CountSetUps_L, if_neg (by rw [← hcode]; exact h0), ← hcode])
    have z1 : (code == 0) = false := by rw [Bool.eq_false_iff]; simp; exact h0
    have z2 : (code != 0) = true := by rw [bne, z1]; rfl
    have H0 := Lib.hid h0
    clear hcode hf h0
    go_enter Try.func14, Try.ntmps14
    go_wp2_with fail
    refine CU.mono ?_
    rintro e w1 ⟨h1, _, _⟩
    obtain ⟨rfl, hb⟩ := h1 H0.out
    clear CU h1
    go_wp2
    go_ret2
    exact ⟨by rw [HE.out]; rfl, hb⟩
end
end Go.Proofs.Ytemkggecempmgaa
