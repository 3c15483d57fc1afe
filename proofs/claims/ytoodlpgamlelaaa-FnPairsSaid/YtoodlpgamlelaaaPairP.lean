/- Pairs of planks: the search, plain. -/
import Derived.Test.YtoodlpgamlelaaaGapS
set_option linter.unusedVariables false
set_option linter.unusedSimpArgs false
namespace Go.Proofs.Ytoodlpgamlelaaa
open Go.RowKit

/-- the first that is not used -/
def frst : List Bool → Nat
  | [] => 0
  | true :: l => frst l + 1
  | false :: _ => 0
theorem frst_le : ∀ us : List Bool, frst us ≤ us.length
  | [] => Nat.le_refl _
  | true :: l => by have := frst_le l; simp [frst]; omega
  | false :: l => Nat.zero_le _
theorem frst_at : ∀ {us : List Bool} {k : Nat}, (∀ j, j < k → us[j]? = some true) → us[k]? = some false → frst us = k
  | [], k, _, h => by simp at h
  | true :: l, 0, _, h => by simp at h
  | false :: l, 0, _, _ => rfl
  | a :: l, k + 1, h, g => by
    have h0 := h 0 (by omega)
    simp at h0
    subst h0
    rw [frst, frst_at (us := l) (k := k) (fun j hj => by have := h (j + 1) (by omega); simpa using this) (by simpa using g)]
theorem frst_all : ∀ {us : List Bool}, (∀ j, j < us.length → us[j]? = some true) → frst us = us.length
  | [], _ => rfl
  | a :: l, h => by
    have h0 := h 0 (by simp)
    simp at h0
    subst h0
    rw [frst, frst_all (us := l) (fun j hj => by have := h (j + 1) (by simp; omega); simpa using this)]
    rfl
theorem frst_is : ∀ {us : List Bool}, frst us < us.length → us[frst us]? = some false
  | [], h => by simp [frst] at h
  | true :: l, h => by
    rw [frst] at h ⊢
    simpa using frst_is (us := l) (by simpa using h)
  | false :: l, _ => rfl
theorem frst_true : ∀ {us : List Bool} {k : Nat}, k < frst us → us[k]? = some true
  | [], k, h => by simp [frst] at h
  | true :: l, 0, h => rfl
  | true :: l, k + 1, h => by
    rw [frst] at h
    simpa using frst_true (us := l) (k := k) (by omega)
  | false :: l, k, h => by simp [frst] at h
structure PSt where
  left : Nat
  best : List (Nat × Nat)
  least : Int
  solved : Bool
def leafP (st : PSt) (prs : List (Nat × Nat)) (sum : Int) : PSt :=
  if st.solved = false ∨ sum < st.least then ⟨st.left - 1, prs, sum, true⟩ else ⟨st.left - 1, st.best, st.least, st.solved⟩
def lpP (ok : Nat → Bool) (f : Nat → PSt → Option PSt) (n : Nat) : Nat → PSt → Option PSt
  | 0, st => some st
  | m + 1, st => if ok (n - (m + 1)) = true then (match f (n - (m + 1)) st with | none => none | some st' => lpP ok f n m st') else lpP ok f n m st
/-- the search; d bounds how many pairs are to come -/
def psrch (gp : Nat → Nat → Int) : Nat → List Bool → List (Nat × Nat) → Int → PSt → Option PSt
  | 0, us, prs, sum, st => if st.left = 0 then none else some (leafP st prs sum)
  | d + 1, us, prs, sum, st => if st.left = 0 then none else if frst us = us.length then some (leafP st prs sum) else
      lpP (fun k => !us.getD k false) (fun k st => psrch gp d ((us.set (frst us) true).set k true) (prs ++ [(frst us, k)]) (sum + gp (frst us) k) st) us.length (us.length - (frst us + 1)) ⟨st.left - 1, st.best, st.least, st.solved⟩
theorem lpP_left {ok : Nat → Bool} {f : Nat → PSt → Option PSt} {n : Nat} (hf : ∀ g st st', f g st = some st' → st'.left ≤ st.left) : ∀ m st st', lpP ok f n m st = some st' → st'.left ≤ st.left
  | 0, st, st', h => by simp [lpP] at h; subst h; exact Nat.le_refl _
  | m + 1, st, st', h => by
    rw [lpP] at h
    split at h
    · cases e : f (n - (m + 1)) st with
      | none => rw [e] at h; cases h
      | some s2 =>
        rw [e] at h
        exact Nat.le_trans (lpP_left hf m s2 st' h) (hf _ st s2 e)
    · exact lpP_left hf m st st' h
theorem leafP_left (st : PSt) (prs : List (Nat × Nat)) (sum : Int) (h : ¬ st.left = 0) : (leafP st prs sum).left + 1 ≤ st.left := by
  unfold leafP
  split <;> simp <;> omega
theorem psrch_left {gp : Nat → Nat → Int} : ∀ d us prs sum st st', psrch gp d us prs sum st = some st' → st'.left + 1 ≤ st.left
  | 0, us, prs, sum, st, st', h => by
    rw [psrch] at h
    split at h
    · cases h
    · rename_i h0
      injection h with h
      subst h
      exact leafP_left st prs sum h0
  | d + 1, us, prs, sum, st, st', h => by
    rw [psrch] at h
    split at h
    · cases h
    · rename_i h0
      split at h
      · injection h with h
        subst h
        exact leafP_left st prs sum h0
      · have := lpP_left (fun g st st' e => Nat.le_of_succ_le (psrch_left d _ _ _ st st' e)) _ _ _ h
        simp at this
        omega
/-- how many are not used -/
def unus (us : List Bool) : Nat := us.countP (fun b => !b)
theorem unus_set {us : List Bool} {i : Nat} (h : us[i]? = some false) : unus (us.set i true) + 1 = unus us := by
  induction us generalizing i with
  | nil => simp at h
  | cons b l ih =>
    cases i with
    | zero => simp at h; subst h; simp [unus]
    | succ i =>
      have := ih (i := i) (by simpa using h)
      unfold unus at *
      cases b <;> simp at * <;> omega
theorem unus_zero {us : List Bool} (h : unus us = 0) : frst us = us.length := by
  refine frst_all fun j hj => ?_
  unfold unus at h
  have := List.countP_eq_zero.1 h us[j] (List.getElem_mem hj)
  rw [List.getElem?_eq_getElem hj]
  simpa using this
end Go.Proofs.Ytoodlpgamlelaaa
