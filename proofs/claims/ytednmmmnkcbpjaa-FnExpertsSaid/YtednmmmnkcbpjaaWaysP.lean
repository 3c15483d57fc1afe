/- Numbers of ways of right answers: plain. -/
import Derived.Test.YtednmmmnkcbpjaaInts
set_option linter.unusedVariables false
namespace Go.Proofs.Ytednmmmnkcbpjaa
open Go.RowKit

theorem getD_is {α : Type} {l : List α} {i : Nat} {x d : α} (h : l[i]? = some x) : l.getD i d = x := by simp [List.getD, h]
def exTo (zs : List Int) : Nat → Bool
  | 0 => true
  | k + 1 => exTo zs k && inB (zs.getD k 0) 0 1000
def expB (zs : List Int) : Bool := exTo zs zs.length && inB (zs.length : Int) 1 5
theorem exTo_bad {zs : List Int} {k n : Nat} (h : k < n) (g : inB (zs.getD k 0) 0 1000 = false) : exTo zs n = false := by
  induction n with
  | zero => omega
  | succ n ih =>
    rw [exTo]
    rcases Nat.lt_or_ge k n with hl | hl
    · rw [ih hl]; rfl
    · obtain rfl : k = n := by omega
      rw [g, Bool.and_false]
theorem exTo_next {zs : List Int} {k : Nat} {z : Int} (h : exTo zs k = true) (hz : zs[k]? = some z) (g : inB z 0 1000 = true) : exTo zs (k + 1) = true := by rw [exTo, h, getD_is hz, g]; rfl
theorem expB_bad {zs : List Int} {k : Nat} {z : Int} (hz : zs[k]? = some z) (g : inB z 0 1000 = false) : expB zs = false := by
  rw [expB, exTo_bad (List.getElem?_eq_some_iff.1 hz).1 (by rw [getD_is hz]; exact g), Bool.false_and]
theorem expB_end {zs : List Int} {n : Nat} (hn : zs.length = n) (h : exTo zs n = true) : expB zs = inB (n : Int) 1 5 := by subst hn; rw [expB, h, Bool.true_and]
theorem expB_t {zs : List Int} (h : expB zs = true) : 1 ≤ zs.length ∧ zs.length ≤ 5 ∧ ∀ (k : Nat), k < zs.length → 0 ≤ zs.getD k 0 ∧ zs.getD k 0 ≤ 1000 := by
  simp only [expB, Bool.and_eq_true] at h
  have a := inB_t h.2
  refine ⟨by omega, by omega, fun k hk => ?_⟩
  cases g : inB (zs.getD k 0) 0 1000
  · rw [exTo_bad hk g] at h; simp at h
  · exact inB_t g
/-- how many ways k of the first i experts are right -/
def wy (zs : List Int) : Nat → Nat → Int
  | 0, k => if k = 0 then 1 else 0
  | i + 1, 0 => wy zs i 0 * (1000 - zs.getD i 0)
  | i + 1, k + 1 => wy zs i (k + 1) * (1000 - zs.getD i 0) + wy zs i k * zs.getD i 0
def thou : Nat → Int
  | 0 => 1
  | i + 1 => thou i * 1000
theorem thou_pos (i : Nat) : 1 ≤ thou i := by
  induction i with
  | zero => simp [thou]
  | succ i ih => rw [thou]; omega
theorem thou_le {i : Nat} (h : i ≤ 5) : thou i ≤ 1000000000000000 := by
  match i, h with
  | 0, _ => decide
  | 1, _ => decide
  | 2, _ => decide
  | 3, _ => decide
  | 4, _ => decide
  | 5, _ => decide
theorem wy_far (zs : List Int) : ∀ (i k : Nat), i < k → wy zs i k = 0
  | 0, k, h => by rw [wy, if_neg (by omega)]
  | i + 1, 0, h => by omega
  | i + 1, k + 1, h => by rw [wy, wy_far zs i (k + 1) (by omega), wy_far zs i k (by omega)]; simp
theorem mix_bd {a b z M : Int} (a0 : 0 ≤ a) (a1 : a ≤ M) (b0 : 0 ≤ b) (b1 : b ≤ M) (z0 : 0 ≤ z) (z1 : z ≤ 1000) : 0 ≤ a * (1000 - z) ∧ a * (1000 - z) ≤ M * 1000 ∧ 0 ≤ b * z ∧ b * z ≤ M * 1000 ∧ a * (1000 - z) + b * z ≤ M * 1000 := by
  have c1 := Int.mul_nonneg a0 (show 0 ≤ 1000 - z by omega)
  have c2 := Int.mul_nonneg b0 z0
  have c3 := Int.mul_le_mul_of_nonneg_right a1 (show 0 ≤ 1000 - z by omega)
  have c4 := Int.mul_le_mul_of_nonneg_right b1 z0
  have e : M * (1000 - z) = M * 1000 - M * z := Int.mul_sub _ _ _
  rw [e] at c3
  have c5 := Int.mul_nonneg (show 0 ≤ M by omega) z0
  have c6 := Int.mul_le_mul_of_nonneg_left z1 (show 0 ≤ M by omega)
  omega
theorem wy_bd {zs : List Int} (h : ∀ (k : Nat), k < zs.length → 0 ≤ zs.getD k 0 ∧ zs.getD k 0 ≤ 1000) : ∀ (i k : Nat), i ≤ zs.length → 0 ≤ wy zs i k ∧ wy zs i k ≤ thou i
  | 0, k, _ => by rw [wy]; split <;> simp [thou]
  | i + 1, 0, hi => by
    have a := wy_bd h i 0 (by omega)
    have z := h i (by omega)
    have := mix_bd a.1 a.2 a.1 a.2 z.1 z.2
    rw [wy, thou]; omega
  | i + 1, k + 1, hi => by
    have a := wy_bd h i (k + 1) (by omega)
    have b := wy_bd h i k (by omega)
    have z := h i (by omega)
    have := mix_bd a.1 a.2 b.1 b.2 z.1 z.2
    rw [wy, thou]; omega
/-- the ways from l on -/
def frTo (zs : List Int) (n l : Nat) : Nat → Int
  | 0 => 0
  | j + 1 => frTo zs n l j + wy zs n (l + j)
def mjTo (zs : List Int) (n : Nat) : Nat → Int
  | 0 => 0
  | k + 1 => mjTo zs n k + (if n < 2 * k then wy zs n k else 0)
def mj (zs : List Int) : Int := mjTo zs zs.length (zs.length + 1)
theorem mj_fr (zs : List Int) (n : Nat) (h : n ≤ 5) : frTo zs n (n / 2 + 1) (n - n / 2) = mjTo zs n (n + 1) := by
  match n, h with
  | 0, _ => simp [frTo, mjTo]
  | 1, _ => simp [frTo, mjTo]
  | 2, _ => simp [frTo, mjTo]
  | 3, _ => simp [frTo, mjTo]
  | 4, _ => simp [frTo, mjTo]
  | 5, _ => simp [frTo, mjTo]
def chL (m : Int) (n : Nat) : Int := if n = 1 then m * 1000 else m / thou (n - 2)
def MajorityChance_L (zs : List Int) : Int × Int := if expB zs = true then (chL (mj zs) zs.length, 0) else (0, 1)
end Go.Proofs.Ytednmmmnkcbpjaa
