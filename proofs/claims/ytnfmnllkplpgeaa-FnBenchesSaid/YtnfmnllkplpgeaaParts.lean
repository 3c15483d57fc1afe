/- Parts of a work in a plan: plain. -/
import Derived.Test.YtnfmnllkplpgeaaPlan
set_option linter.unusedVariables false
namespace Go.Proofs.Ytnfmnllkplpgeaa
open Go.RowKit

def bump (ps : List (List Int)) : List (List Int) := ps.set (ps.length - 1) ((ps.getD (ps.length - 1) []).set 2 ((ps.getD (ps.length - 1) []).getD 2 0 + 1))
theorem bump_snoc (qs : List (List Int)) (x y z : Int) : bump (qs ++ [[x, y, z]]) = (qs ++ [[x, y, z]]).set qs.length ([x, y, z].set 2 (z + 1)) := by
  have hl : (qs ++ [[x, y, z]]).length - 1 = qs.length := by simp
  have hg : (qs ++ [[x, y, z]]).getD qs.length [] = [x, y, z] := by simp [List.getD]
  rw [bump, hl, hg]; rfl
theorem set_snoc (qs : List (List Int)) (r r' : List Int) : (qs ++ [r]).set qs.length r' = qs ++ [r'] := by simp
def pStep (b : Nat) (wk : Int) (r : List Int) (ps : List (List Int)) (k : Nat) : List (List Int) :=
  if r.getD k 0 = wk then (if 0 < k ∧ r.getD (k - 1) 0 = wk then bump ps else ps ++ [[(b : Int), (k : Int), 1]]) else ps
def pRow (b : Nat) (wk : Int) (r : List Int) (ps : List (List Int)) : Nat → List (List Int)
  | 0 => ps
  | k + 1 => pStep b wk r (pRow b wk r ps k) k
def pAll (wk : Int) (rs : List (List Int)) : Nat → List (List Int)
  | 0 => []
  | b + 1 => pRow b wk (rs.getD b []) (pAll wk rs b) 40
/-- a part is a bench, a first day and a number of days, inside the plan -/
def PartOk (n : Nat) (p : List Int) : Prop := ∃ x y z : Nat, p = [(x : Int), (y : Int), (z : Int)] ∧ x < n ∧ 1 ≤ z ∧ y + z ≤ 40
/-- what holds of the parts while row b is gone through -/
structure PInv (b : Nat) (wk : Int) (r : List Int) (k : Nat) (ps : List (List Int)) : Prop where
  ok : ∀ p ∈ ps, PartOk (b + 1) p
  last : 0 < k → r.getD (k - 1) 0 = wk → ∃ (qs : List (List Int)) (y z : Nat), ps = qs ++ [[(b : Int), (y : Int), (z : Int)]] ∧ 1 ≤ z ∧ y + z = k
theorem PInv.step {b : Nat} {wk : Int} {r : List Int} {k : Nat} {ps : List (List Int)} (h : PInv b wk r k ps) (hk : k < 40) : PInv b wk r (k + 1) (pStep b wk r ps k) := by
  unfold pStep
  by_cases h1 : r.getD k 0 = wk
  · rw [if_pos h1]
    by_cases h2 : 0 < k ∧ r.getD (k - 1) 0 = wk
    · rw [if_pos h2]
      obtain ⟨qs, y, z, rfl, hz, hyz⟩ := h.last h2.1 h2.2
      rw [bump_snoc, set_snoc]
      refine ⟨fun p hp => ?_, fun _ _ => ⟨qs, y, z + 1, by simp, by omega, by omega⟩⟩
      simp at hp
      rcases hp with hp | rfl
      · exact h.ok p (by simp [hp])
      · exact ⟨b, y, z + 1, by simp, by omega, by omega, by omega⟩
    · rw [if_neg h2]
      refine ⟨fun p hp => ?_, fun _ _ => ⟨ps, k, 1, by simp, by omega, by omega⟩⟩
      simp at hp
      rcases hp with hp | rfl
      · exact h.ok p hp
      · exact ⟨b, k, 1, by simp, by omega, by omega, by omega⟩
  · rw [if_neg h1]
    exact ⟨h.ok, fun _ g => absurd (by simpa using g) h1⟩
theorem PInv.row {b : Nat} {wk : Int} {r : List Int} {ps : List (List Int)} (h : ∀ p ∈ ps, PartOk (b + 1) p) : ∀ k, k ≤ 40 → PInv b wk r k (pRow b wk r ps k)
  | 0, _ => ⟨h, fun g => absurd g (by omega)⟩
  | k + 1, hk => (PInv.row h k (by omega)).step (by omega)
theorem PartOk.more {n m : Nat} {p : List Int} (h : PartOk n p) (hm : n ≤ m) : PartOk m p := by
  obtain ⟨x, y, z, e, a, c⟩ := h
  exact ⟨x, y, z, e, by omega, c⟩
theorem pAll_ok (wk : Int) (rs : List (List Int)) : ∀ b, ∀ p ∈ pAll wk rs b, PartOk b p
  | 0, p, hp => by simp [pAll] at hp
  | b + 1, p, hp => (PInv.row (fun q hq => (pAll_ok wk rs b q hq).more (by omega)) 40 (Nat.le_refl _)).ok p hp
theorem pInv (wk : Int) (rs : List (List Int)) (b : Nat) (r : List Int) {k : Nat} (hk : k ≤ 40) : PInv b wk r k (pRow b wk r (pAll wk rs b) k) := PInv.row (fun q hq => (pAll_ok wk rs b q hq).more (by omega)) k hk
theorem bump_len (ps : List (List Int)) : (bump ps).length = ps.length := by simp [bump]
theorem pStep_len (b : Nat) (wk : Int) (r : List Int) (ps : List (List Int)) (k : Nat) : (pStep b wk r ps k).length ≤ ps.length + 1 := by
  unfold pStep
  split
  · split
    · rw [bump_len]; omega
    · simp
  · omega
theorem pRow_len (b : Nat) (wk : Int) (r : List Int) (ps : List (List Int)) (k : Nat) : (pRow b wk r ps k).length ≤ ps.length + k := by
  induction k with
  | zero => simp [pRow]
  | succ k ih => have := pStep_len b wk r (pRow b wk r ps k) k; rw [pRow]; omega
theorem pAll_len (wk : Int) (rs : List (List Int)) (b : Nat) : (pAll wk rs b).length ≤ 40 * b := by
  induction b with
  | zero => simp [pAll]
  | succ b ih => have := pRow_len b wk (rs.getD b []) (pAll wk rs b) 40; rw [pAll]; omega
theorem pStep_no {b : Nat} {wk z : Int} {r : List Int} {ps : List (List Int)} {k : Nat} (hz : r[k]? = some z) (h : z ≠ wk) : pStep b wk r ps k = ps := by rw [pStep, getD_is hz, if_neg h]
theorem pStep_new {b : Nat} {wk z : Int} {r : List Int} {ps : List (List Int)} {k : Nat} (hz : r[k]? = some z) (h : z = wk) (hn : ¬ (0 < k ∧ r.getD (k - 1) 0 = wk)) : pStep b wk r ps k = ps ++ [[(b : Int), (k : Int), 1]] := by rw [pStep, getD_is hz, if_pos h, if_neg hn]
theorem pStep_more {b : Nat} {wk z y : Int} {r : List Int} {ps : List (List Int)} {k : Nat} (hz : r[k]? = some z) (h : z = wk) (hk : 0 < k) (hy : r[k - 1]? = some y) (g : y = wk) : pStep b wk r ps k = bump ps := by rw [pStep, getD_is hz, if_pos h, if_pos ⟨hk, by rw [getD_is hy]; exact g⟩]
theorem tot3 {n : Nat} {ps : List (List Int)} (h : ∀ p ∈ ps, PartOk n p) : tot ps = 3 * ps.length := by
  induction ps with
  | nil => rfl
  | cons p ps ih =>
    obtain ⟨x, y, z, rfl, _⟩ := h p (by simp)
    rw [tot, ih fun q hq => h q (by simp [hq])]
    simp; omega
def PartsOf_L (rs : List (List Int)) (wk : Int) : List (List Int) × Int := if planB rs = true then (if inB wk 1 8 = true then (if (pAll wk rs rs.length).length = 0 then ([], 3) else (pAll wk rs rs.length, 0)) else ([], 2)) else ([], 1)
theorem PartsOf_bd (rs : List (List Int)) (wk : Int) : (PartsOf_L rs wk).1.length ≤ maxLen ∧ (∀ r ∈ (PartsOf_L rs wk).1, r.length ≤ maxLen) ∧ tot (PartsOf_L rs wk).1 ≤ 1000000 := by
  unfold PartsOf_L
  split
  · rename_i hp
    have P := planB_t hp
    have hl := pAll_len wk rs rs.length
    have ho := pAll_ok wk rs rs.length
    have ht := tot3 ho
    split
    · split
      · simp [maxLen, tot]
      · refine ⟨by show (pAll wk rs rs.length).length ≤ maxLen; unfold maxLen; omega, fun r hr => ?_, by show tot (pAll wk rs rs.length) ≤ 1000000; omega⟩
        obtain ⟨x, y, z, rfl, _⟩ := ho r hr
        simp [maxLen]
    · simp [maxLen, tot]
  · simp [maxLen, tot]
end Go.Proofs.Ytnfmnllkplpgeaa
