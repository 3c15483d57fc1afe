/- Pairs of planks: what the best pairs are, plain. -/
import Derived.Test.YtoodlpgamlelaaaPairX
set_option linter.unusedVariables false
set_option linter.unusedSimpArgs false
namespace Go.Proofs.Ytoodlpgamlelaaa
open Go.RowKit

def sumTo (f : Nat → Int) : Nat → Int
  | 0 => 0
  | k + 1 => sumTo f k + f k
def gS (gp : Nat → Nat → Int) : List (Nat × Nat) → Int
  | [] => 0
  | p :: ps => gp p.1 p.2 + gS gp ps
theorem gS_app (gp : Nat → Nat → Int) (ps : List (Nat × Nat)) (p : Nat × Nat) : gS gp (ps ++ [p]) = gS gp ps + gp p.1 p.2 := by
  induction ps with
  | nil => simp [gS]
  | cons q ps ih => rw [List.cons_append, gS, ih, gS]; omega
/-- pairs that use each plank once -/
def runP : List Bool → List (Nat × Nat) → Option (List Bool)
  | us, [] => some us
  | us, p :: ps => if p.1 < p.2 ∧ p.2 < us.length ∧ us[p.1]? = some false ∧ us[p.2]? = some false then runP ((us.set p.1 true).set p.2 true) ps else none
theorem runP_app : ∀ (us : List Bool) (ps qs : List (Nat × Nat)), runP us (ps ++ qs) = (runP us ps).bind fun u => runP u qs
  | us, [], qs => rfl
  | us, p :: ps, qs => by
    rw [List.cons_append, runP, runP]
    split
    · exact runP_app _ ps qs
    · rfl
theorem runP_step {u0 us : List Bool} {ps : List (Nat × Nat)} {i k : Nat} (h : runP u0 ps = some us) (h1 : i < k) (h2 : k < us.length) (h3 : us[i]? = some false) (h4 : us[k]? = some false) : runP u0 (ps ++ [(i, k)]) = some ((us.set i true).set k true) := by
  rw [runP_app, h, Option.bind_some, runP, if_pos ⟨h1, h2, h3, h4⟩, runP]
theorem runP_at {u0 u : List Bool} {ps : List (Nat × Nat)} {k : Nat} {p : Nat × Nat} (h : runP u0 ps = some u) (hp : ps[k]? = some p) :
    ∃ us, runP u0 (ps.take k) = some us ∧ p.1 < p.2 ∧ p.2 < us.length ∧ us[p.1]? = some false ∧ us[p.2]? = some false ∧ runP u0 (ps.take (k + 1)) = some ((us.set p.1 true).set p.2 true) := by
  have hk := (List.getElem?_eq_some_iff.1 hp).1
  have hv := (List.getElem?_eq_some_iff.1 hp).2
  have e : ps = ps.take k ++ (p :: ps.drop (k + 1)) := by
    rw [← hv, ← List.drop_eq_getElem_cons hk, List.take_append_drop]
  rw [e, runP_app] at h
  cases hq : runP u0 (ps.take k) with
  | none => rw [hq] at h; cases h
  | some us =>
    rw [hq, Option.bind_some, runP] at h
    split at h
    · rename_i hc
      refine ⟨us, rfl, hc.1, hc.2.1, hc.2.2.1, hc.2.2.2, ?_⟩
      rw [List.take_succ_eq_append_getElem hk, hv]
      exact runP_step hq hc.1 hc.2.1 hc.2.2.1 hc.2.2.2
    · cases h
theorem runP_len : ∀ {us : List Bool} {ps : List (Nat × Nat)} {u : List Bool}, runP us ps = some u → u.length = us.length
  | us, [], u, h => by simp [runP] at h; rw [h]
  | us, p :: ps, u, h => by
    rw [runP] at h
    split at h
    · have := runP_len h
      simpa using this
    · cases h
/-- a best that is a pairing -/
def GoodP (gp : Nat → Nat → Int) (u0 : List Bool) (N : Nat) (st : PSt) : Prop := st.solved = true → (∃ u, runP u0 st.best = some u) ∧ st.best.length = N ∧ st.least = gS gp st.best
theorem leafP_good {gp : Nat → Nat → Int} {u0 us : List Bool} {N : Nat} {prs : List (Nat × Nat)} {sum : Int} {st : PSt} (hr : runP u0 prs = some us) (hl : prs.length = N) (hs : sum = gS gp prs) (h : GoodP gp u0 N st) : GoodP gp u0 N (leafP st prs sum) := by
  unfold leafP
  split
  · exact fun _ => ⟨⟨us, hr⟩, hl, hs⟩
  · exact h
theorem okk {us : List Bool} {k : Nat} (hk : k < us.length) (h : (!us.getD k false) = true) : us[k]? = some false := by
  rw [List.getElem?_eq_getElem hk]
  rw [List.getD_eq_getElem?_getD, List.getElem?_eq_getElem hk] at h
  simpa using h
theorem psrch_good {gp : Nat → Nat → Int} {u0 : List Bool} {N : Nat} : ∀ d us prs sum st st', psrch gp d us prs sum st = some st' → unus us = 2 * d → runP u0 prs = some us → prs.length + d = N → sum = gS gp prs → GoodP gp u0 N st → GoodP gp u0 N st'
  | 0, us, prs, sum, st, st', h, _, hr, hl, hs, hg => by
    rw [psrch] at h
    split at h
    · cases h
    · injection h with h
      subst h
      exact leafP_good hr hl hs hg
  | d + 1, us, prs, sum, st, st', h, hu, hr, hl, hs, hg => by
    rw [psrch] at h
    obtain ⟨f1, _⟩ := unus_two (us := us) (by omega)
    have hfi := frst_is f1
    split at h
    · cases h
    · split at h
      · omega
      · have gen : ∀ m st st', m ≤ us.length - (frst us + 1) → lpP (fun k => !us.getD k false) (fun k st => psrch gp d ((us.set (frst us) true).set k true) (prs ++ [(frst us, k)]) (sum + gp (frst us) k) st) us.length m st = some st' → GoodP gp u0 N st → GoodP gp u0 N st' := by
          intro m
          induction m with
          | zero => intro st st' hm h hb; simp [lpP] at h; subst h; exact hb
          | succ m ih =>
            intro st st' hm h hb
            rw [lpP] at h
            split at h
            · rename_i ho
              cases e : psrch gp d ((us.set (frst us) true).set (us.length - (m + 1)) true) (prs ++ [(frst us, us.length - (m + 1))]) (sum + gp (frst us) (us.length - (m + 1))) st with
              | none => rw [e] at h; cases h
              | some s2 =>
                rw [e] at h
                have hk : us.length - (m + 1) < us.length := by omega
                have hk2 := okk hk ho
                have hgg : (us.set (frst us) true)[us.length - (m + 1)]? = some false := by rw [List.getElem?_set_ne (by omega)]; exact hk2
                have a := unus_set hfi
                have b := unus_set hgg
                refine ih s2 st' (by omega) h (psrch_good d _ _ _ st s2 e (by omega) (runP_step hr (by omega) hk hfi hk2) (by simp; omega) (by rw [gS_app, hs]) hb)
            · exact ih st st' (by omega) h hb
        exact gen _ _ _ (Nat.le_refl _) h hg
/-- a budget that is enough -/
def bgt : Nat → Nat
  | 0 => 1
  | d + 1 => 1 + 5 * bgt d
theorem leafP_lf (st : PSt) (prs : List (Nat × Nat)) (sum : Int) : (leafP st prs sum).left = st.left - 1 := by
  unfold leafP; split <;> rfl
theorem bgt_pos : ∀ d, 1 ≤ bgt d
  | 0 => Nat.le_refl _
  | d + 1 => by rw [bgt]; omega
theorem psrch_some {gp : Nat → Nat → Int} : ∀ d us prs sum st, us.length ≤ 6 → bgt d ≤ st.left → ∃ st', psrch gp d us prs sum st = some st' ∧ st.left ≤ st'.left + bgt d
  | 0, us, prs, sum, st, hl, hb => by
    rw [bgt] at hb
    rw [psrch, if_neg (by omega)]
    exact ⟨_, rfl, by rw [leafP_lf, bgt]; omega⟩
  | d + 1, us, prs, sum, st, hl, hb => by
    have p1 := bgt_pos (d + 1)
    rw [psrch, if_neg (by omega)]
    split
    · exact ⟨_, rfl, by rw [leafP_lf]; omega⟩
    · have gen : ∀ m st, m * bgt d ≤ st.left → ∃ st', lpP (fun k => !us.getD k false) (fun k st => psrch gp d ((us.set (frst us) true).set k true) (prs ++ [(frst us, k)]) (sum + gp (frst us) k) st) us.length m st = some st' ∧ st.left ≤ st'.left + m * bgt d := by
        intro m
        induction m with
        | zero => intro st _; exact ⟨st, rfl, by omega⟩
        | succ m ih =>
          intro st hb
          rw [Nat.add_mul, Nat.one_mul] at hb
          rw [lpP]
          split
          · obtain ⟨s2, e, h2⟩ := psrch_some (gp := gp) d ((us.set (frst us) true).set (us.length - (m + 1)) true) (prs ++ [(frst us, us.length - (m + 1))]) (sum + gp (frst us) (us.length - (m + 1))) st (by simpa using hl) (by omega)
            obtain ⟨s3, e3, h3⟩ := ih s2 (by omega)
            rw [e]
            exact ⟨s3, e3, by rw [Nat.add_mul, Nat.one_mul]; omega⟩
          · obtain ⟨s3, e3, h3⟩ := ih st (by omega)
            exact ⟨s3, e3, by rw [Nat.add_mul, Nat.one_mul]; omega⟩
      have m5 : us.length - (frst us + 1) ≤ 5 := by omega
      have hm := Nat.mul_le_mul_right (bgt d) m5
      rw [bgt] at hb ⊢
      obtain ⟨s3, e3, h3⟩ := gen (us.length - (frst us + 1)) ⟨st.left - 1, st.best, st.least, st.solved⟩ (by simp only; omega)
      simp only at h3
      exact ⟨s3, e3, by omega⟩
/-- the best is no more than v -/
def LeP (st : PSt) (v : Int) : Prop := st.solved = true ∧ st.least ≤ v
theorem leafP_le {st : PSt} {prs : List (Nat × Nat)} {sum v : Int} (h : LeP st v) : LeP (leafP st prs sum) v := by
  unfold leafP
  split
  · rename_i hc
    rcases hc with hc | hc
    · rw [h.1] at hc; cases hc
    · exact ⟨rfl, by have := h.2; show sum ≤ v; omega⟩
  · exact h
theorem leafP_own (st : PSt) (prs : List (Nat × Nat)) (sum : Int) : LeP (leafP st prs sum) sum := by
  unfold leafP
  split
  · exact ⟨rfl, Int.le_refl _⟩
  · rename_i hc
    refine ⟨?_, ?_⟩
    · cases e : st.solved
      · exact absurd (.inl e) hc
      · rfl
    · show st.least ≤ sum
      have : ¬ sum < st.least := fun h => hc (.inr h)
      omega
theorem psrch_le {gp : Nat → Nat → Int} {v : Int} : ∀ d us prs sum st st', psrch gp d us prs sum st = some st' → LeP st v → LeP st' v
  | 0, us, prs, sum, st, st', h, hp => by
    rw [psrch] at h
    split at h
    · cases h
    · injection h with h
      subst h
      exact leafP_le hp
  | d + 1, us, prs, sum, st, st', h, hp => by
    rw [psrch] at h
    split at h
    · cases h
    · split at h
      · injection h with h
        subst h
        exact leafP_le hp
      · exact lpP_keep (P := fun s => LeP s v) (fun g st st' e => psrch_le d _ _ _ st st' e) _ _ _ h hp
/-- pairs that the search takes, first unused first -/
def fol : List Bool → List (Nat × Nat) → Bool
  | us, [] => true
  | us, p :: ps => decide (p.1 = frst us) && (decide (p.1 < p.2) && (decide (us[p.2]? = some false) && fol ((us.set p.1 true).set p.2 true) ps))
theorem psrch_opt {gp : Nat → Nat → Int} : ∀ d us prs sum st st' ms, psrch gp d us prs sum st = some st' → fol us ms = true → ms.length = d → unus us = 2 * d → LeP st' (sum + gS gp ms)
  | 0, us, prs, sum, st, st', ms, h, hf, hl, hu => by
    obtain rfl := List.length_eq_zero_iff.1 hl
    rw [psrch] at h
    split at h
    · cases h
    · injection h with h
      subst h
      rw [gS, Int.add_zero]
      exact leafP_own _ _ _
  | d + 1, us, prs, sum, st, st', [], h, hf, hl, hu => by cases hl
  | d + 1, us, prs, sum, st, st', p :: ms, h, hf, hl, hu => by
    obtain ⟨i, k⟩ := p
    rw [fol] at hf
    simp only [Bool.and_eq_true, decide_eq_true_eq] at hf
    obtain ⟨rfl, h1, h2, h3⟩ := hf
    have hk := (List.getElem?_eq_some_iff.1 h2).1
    have f1 : frst us < us.length := by omega
    have hfi := frst_is f1
    rw [psrch] at h
    split at h
    · cases h
    · split at h
      · omega
      · have key : ∀ st st', psrch gp d ((us.set (frst us) true).set k true) (prs ++ [(frst us, k)]) (sum + gp (frst us) k) st = some st' → LeP st' (sum + gS gp ((frst us, k) :: ms)) := by
          intro st st' e
          have hgg : (us.set (frst us) true)[k]? = some false := by rw [List.getElem?_set_ne (by omega)]; exact h2
          have a := unus_set hfi
          have b := unus_set hgg
          have := psrch_opt d _ _ _ st st' ms e h3 (by simpa using hl) (by omega)
          rw [gS]
          rw [Int.add_assoc] at this
          exact this
        have gen : ∀ m st st', us.length - m ≤ k → lpP (fun k => !us.getD k false) (fun k st => psrch gp d ((us.set (frst us) true).set k true) (prs ++ [(frst us, k)]) (sum + gp (frst us) k) st) us.length m st = some st' → LeP st' (sum + gS gp ((frst us, k) :: ms)) := by
          intro m
          induction m with
          | zero => intro st st' hm; omega
          | succ m ih =>
            intro st st' hm h
            rw [lpP] at h
            split at h
            · rename_i ho
              cases e : psrch gp d ((us.set (frst us) true).set (us.length - (m + 1)) true) (prs ++ [(frst us, us.length - (m + 1))]) (sum + gp (frst us) (us.length - (m + 1))) st with
              | none => rw [e] at h; cases h
              | some s2 =>
                rw [e] at h
                rcases Nat.lt_or_ge k (us.length - m) with q | q
                · have ek : us.length - (m + 1) = k := by omega
                  rw [ek] at e
                  exact lpP_keep (P := fun s => LeP s (sum + gS gp ((frst us, k) :: ms))) (fun g st st' e => psrch_le d _ _ _ st st' e) _ _ _ h (key st s2 e)
                · exact ih s2 st' q h
            · rename_i ho
              rcases Nat.lt_or_ge k (us.length - m) with q | q
              · have ek : us.length - (m + 1) = k := by omega
                rw [ek] at ho
                exact absurd (by simp [List.getD_eq_getElem?_getD, h2]) ho
              · exact ih st st' q h
        exact gen _ _ _ (by omega) h
/-- the sums of three ways to pair -/
def nearL (gp : Nat → Nat → Int) (j : Nat) : Int := sumTo (fun t => gp (2 * t) (2 * t + 1)) j
def farL (gp : Nat → Nat → Int) (n j : Nat) : Int := sumTo (fun t => gp t (n - 1 - t)) j
def shiftL (gp : Nat → Nat → Int) (n j : Nat) : Int := sumTo (fun t => gp t (t + n / 2)) j
theorem law_p (ds : List PlankD) (n : Nat) (hn : ds.length = n) (n6 : n ≤ 6) (he : n % 2 = 0) :
    ∃ s : PSt, findP ds 20000 = some s ∧ 2 * s.best.length = n ∧ s.least = gS (gpL ds) s.best ∧ (∃ u, runP (List.replicate n false) s.best = some u) ∧ s.least ≤ nearL (gpL ds) (n / 2) ∧ s.least ≤ farL (gpL ds) n (n / 2) ∧ s.least ≤ shiftL (gpL ds) n (n / 2) := by
  have hb : bgt (n / 2) ≤ 20000 := by
    have : n / 2 ≤ 3 := by omega
    match n / 2, this with
    | 0, _ => decide
    | 1, _ => decide
    | 2, _ => decide
    | 3, _ => decide
  have hu : unus (List.replicate n false) = 2 * (n / 2) := by rw [unus_rep]; omega
  obtain ⟨s, hs, _⟩ := psrch_some (gp := gpL ds) (n / 2) (List.replicate n false) [] 0 ⟨20000, [], 0, false⟩ (by simpa using n6) hb
  have hf : findP ds 20000 = some s := by rw [findP, hn]; exact hs
  have hsol := psrch_sol _ _ _ _ _ _ hs hu
  obtain ⟨g1, g2, g3⟩ := psrch_good (u0 := List.replicate n false) (N := n / 2) _ _ _ _ _ _ hs hu rfl (by simp) rfl (fun h => by cases h) hsol
  have opt : ∀ ms, fol (List.replicate n false) ms = true → ms.length = n / 2 → s.least ≤ gS (gpL ds) ms := fun ms h1 h2 => by
    have := (psrch_opt _ _ _ _ _ _ ms hs h1 h2 hu).2
    rwa [Int.zero_add] at this
  refine ⟨s, hf, by omega, g3, g1, ?_, ?_, ?_⟩
  · rcases (show n = 0 ∨ n = 2 ∨ n = 4 ∨ n = 6 by omega) with rfl | rfl | rfl | rfl
    · have := opt [] rfl rfl; simpa [gS, nearL, sumTo] using this
    · have := opt [(0, 1)] (by decide) rfl; simp [gS, nearL, sumTo] at *; omega
    · have := opt [(0, 1), (2, 3)] (by decide) rfl; simp [gS, nearL, sumTo] at *; omega
    · have := opt [(0, 1), (2, 3), (4, 5)] (by decide) rfl; simp [gS, nearL, sumTo] at *; omega
  · rcases (show n = 0 ∨ n = 2 ∨ n = 4 ∨ n = 6 by omega) with rfl | rfl | rfl | rfl
    · have := opt [] rfl rfl; simpa [gS, farL, sumTo] using this
    · have := opt [(0, 1)] (by decide) rfl; simp [gS, farL, sumTo] at *; omega
    · have := opt [(0, 3), (1, 2)] (by decide) rfl; simp [gS, farL, sumTo] at *; omega
    · have := opt [(0, 5), (1, 4), (2, 3)] (by decide) rfl; simp [gS, farL, sumTo] at *; omega
  · rcases (show n = 0 ∨ n = 2 ∨ n = 4 ∨ n = 6 by omega) with rfl | rfl | rfl | rfl
    · have := opt [] rfl rfl; simpa [gS, shiftL, sumTo] using this
    · have := opt [(0, 1)] (by decide) rfl; simp [gS, shiftL, sumTo] at *; omega
    · have := opt [(0, 2), (1, 3)] (by decide) rfl; simp [gS, shiftL, sumTo] at *; omega
    · have := opt [(0, 3), (1, 4), (2, 5)] (by decide) rfl; simp [gS, shiftL, sumTo] at *; omega
end Go.Proofs.Ytoodlpgamlelaaa
