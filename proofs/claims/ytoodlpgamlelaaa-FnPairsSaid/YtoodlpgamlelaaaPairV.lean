/- Pairs of planks: the reference's search; what a search finds. -/
import Derived.Test.YtoodlpgamlelaaaPairU
import Derived.Test.YtoodlpgamlelaaaPairK
set_option linter.unusedVariables false
namespace Go.Proofs.Ytoodlpgamlelaaa
open Go.RowKit

theorem pnext_any (ds : List PlankD) (g gu L B : Nat) (LA : Option Addr) (n lc uc : Nat) (budget : Int) (n16 : n ≤ 16) (hds : ds.length = n) (hpl : ∀ x ∈ ds, plankR x) : ∀ (d : Nat) (w : World) (us : List Bool) (ps : List (Nat × Nat)) (sum : Int) (st : PSt) (x1 v3 : Value) (vs ws : List Value) (least nodes : Int), PairN ds g gu L B LA n lc uc d budget w us ps sum st x1 v3 vs ws least nodes →
    Calls Try.prog 29 #[.pointer (some ⟨g, 0, none⟩), .int .i64 sum] w (PNextE g gu L LA n lc uc budget w us ps x1 (psrch (gpL ds) d us ps sum st))
  | 0, w, us, ps, sum, st, x1, v3, vs, ws, least, nodes, h => pnext_z ds g gu L B LA n lc uc budget n16 w us ps sum st x1 v3 vs ws least nodes h
  | d + 1, w, us, ps, sum, st, x1, v3, vs, ws, least, nodes, h => pnext_s ds g gu L B LA n lc uc budget n16 hds hpl d (pnext_any ds g gu L B LA n lc uc budget n16 hds hpl d) w us ps sum st x1 v3 vs ws least nodes h
theorem leafP_sol (st : PSt) (prs : List (Nat × Nat)) (sum : Int) : (leafP st prs sum).solved = true := by
  unfold leafP
  split
  · rfl
  · rename_i h
    cases e : st.solved
    · exact absurd (.inl e) h
    · rfl
theorem lpP_keep {P : PSt → Prop} {ok : Nat → Bool} {f : Nat → PSt → Option PSt} {n : Nat} (hf : ∀ g st st', f g st = some st' → P st → P st') : ∀ m st st', lpP ok f n m st = some st' → P st → P st'
  | 0, st, st', h, hp => by simp [lpP] at h; subst h; exact hp
  | m + 1, st, st', h, hp => by
    rw [lpP] at h
    split at h
    · cases e : f (n - (m + 1)) st with
      | none => rw [e] at h; cases h
      | some s2 =>
        rw [e] at h
        exact lpP_keep hf m s2 st' h (hf _ st s2 e hp)
    · exact lpP_keep hf m st st' h hp
theorem psrch_keep {gp : Nat → Nat → Int} : ∀ d us prs sum st st', psrch gp d us prs sum st = some st' → st.solved = true → st'.solved = true
  | 0, us, prs, sum, st, st', h, hp => by
    rw [psrch] at h
    split at h
    · cases h
    · injection h with h
      subst h
      exact leafP_sol _ _ _
  | d + 1, us, prs, sum, st, st', h, hp => by
    rw [psrch] at h
    split at h
    · cases h
    · split at h
      · injection h with h
        subst h
        exact leafP_sol _ _ _
      · exact lpP_keep (P := fun s => s.solved = true) (fun g st st' e => psrch_keep d _ _ _ st st' e) _ _ _ h hp
theorem lpP_hit {P : PSt → Prop} {ok : Nat → Bool} {f : Nat → PSt → Option PSt} {n : Nat} (hk : ∀ g st st', f g st = some st' → P st → P st') (hf : ∀ g st st', ok g = true → f g st = some st' → P st') : ∀ m st st', lpP ok f n m st = some st' → (∃ k, n - m ≤ k ∧ k < n ∧ ok k = true) → P st'
  | 0, st, st', h, ⟨k, a, b, _⟩ => by omega
  | m + 1, st, st', h, ⟨k, a, b, c⟩ => by
    rw [lpP] at h
    split at h
    · rename_i ho
      cases e : f (n - (m + 1)) st with
      | none => rw [e] at h; cases h
      | some s2 =>
        rw [e] at h
        exact lpP_keep hk m s2 st' h (hf _ st s2 ho e)
    · rename_i ho
      refine lpP_hit hk hf m st st' h ⟨k, ?_, b, c⟩
      rcases Nat.lt_or_ge k (n - m) with q | q
      · have : k = n - (m + 1) := by omega
        subst this
        exact absurd c ho
      · exact q
/-- another that is not used -/
theorem unus_two {us : List Bool} (h : 2 ≤ unus us) : frst us < us.length ∧ ∃ k, frst us + 1 ≤ k ∧ k < us.length ∧ us[k]? = some false := by
  have h1 : frst us < us.length := frst_lt (by omega)
  refine ⟨h1, ?_⟩
  have h2 := unus_set (frst_is h1)
  have h3 : frst (us.set (frst us) true) < (us.set (frst us) true).length := frst_lt (by omega)
  have h4 := frst_is h3
  rw [List.length_set] at h3
  refine ⟨frst (us.set (frst us) true), ?_, h3, ?_⟩
  · rcases Nat.lt_or_ge (frst us) (frst (us.set (frst us) true)) with q | q
    · exact q
    · exfalso
      rcases Nat.lt_or_eq_of_le q with q | q
      · rw [List.getElem?_set_ne (by omega), frst_true q] at h4
        cases h4
      · rw [q, List.getElem?_set_self h1] at h4
        cases h4
  · rw [List.getElem?_set] at h4
    split at h4
    · first | (cases h4; done) | (split at h4 <;> cases h4)
    · exact h4
theorem psrch_sol {gp : Nat → Nat → Int} : ∀ d us prs sum st st', psrch gp d us prs sum st = some st' → unus us = 2 * d → st'.solved = true
  | 0, us, prs, sum, st, st', h, _ => by
    rw [psrch] at h
    split at h
    · cases h
    · injection h with h
      subst h
      exact leafP_sol _ _ _
  | d + 1, us, prs, sum, st, st', h, hu => by
    rw [psrch] at h
    split at h
    · cases h
    · split at h
      · injection h with h
        subst h
        exact leafP_sol _ _ _
      · obtain ⟨f1, k, k1, k2, k3⟩ := unus_two (us := us) (by omega)
        have hfi := frst_is f1
        have key : ∀ g st st', (!us.getD g false) = true → frst us + 1 ≤ g → g < us.length → psrch gp d ((us.set (frst us) true).set g true) (prs ++ [(frst us, g)]) (sum + gp (frst us) g) st = some st' → st'.solved = true := by
          intro g st st' hg h1 h2 e
          refine psrch_sol d _ _ _ st st' e ?_
          have hgg : (us.set (frst us) true)[g]? = some false := by
            rw [List.getElem?_set_ne (by omega), List.getElem?_eq_getElem h2]
            rw [List.getD_eq_getElem?_getD, List.getElem?_eq_getElem h2] at hg
            simpa using hg
          have a := unus_set hfi
          have b := unus_set hgg
          omega
        -- the loop's own rounds
        have gen : ∀ m st st', m ≤ us.length - (frst us + 1) → lpP (fun k => !us.getD k false) (fun k st => psrch gp d ((us.set (frst us) true).set k true) (prs ++ [(frst us, k)]) (sum + gp (frst us) k) st) us.length m st = some st' → (∃ k, us.length - m ≤ k ∧ k < us.length ∧ us[k]? = some false) → st'.solved = true := by
          intro m
          induction m with
          | zero => intro st st' hm h ⟨k, a, b, _⟩; omega
          | succ m ih =>
            intro st st' hm h ⟨k, a, b, c⟩
            rw [lpP] at h
            split at h
            · rename_i ho
              cases e : psrch gp d ((us.set (frst us) true).set (us.length - (m + 1)) true) (prs ++ [(frst us, us.length - (m + 1))]) (sum + gp (frst us) (us.length - (m + 1))) st with
              | none => rw [e] at h; cases h
              | some s2 =>
                rw [e] at h
                have := key _ st s2 ho (by omega) (by omega) e
                exact lpP_keep (P := fun s => s.solved = true) (fun g st st' e => psrch_keep d _ _ _ st st' e) m s2 st' h this
            · rename_i ho
              refine ih st st' (by omega) h ⟨k, ?_, b, c⟩
              rcases Nat.lt_or_ge k (us.length - m) with q | q
              · have : k = us.length - (m + 1) := by omega
                subst this
                exact absurd (by simp [List.getD_eq_getElem?_getD, c]) ho
              · exact q
        exact gen _ _ _ (Nat.le_refl _) h ⟨k, by omega, k2, k3⟩
end Go.Proofs.Ytoodlpgamlelaaa
