/- Discounts and shares: plain. -/
import Derived.Test.YtbkmfhdagnlgiaaInts
set_option linter.unusedVariables false
namespace Go.Proofs.Ytbkmfhdagnlgiaa
open Go.RowKit

theorem getD_is {α : Type} {l : List α} {i : Nat} {x d : α} (h : l[i]? = some x) : l.getD i d = x := by simp [List.getD, h]
def shTo (zs : List Int) : Nat → Bool
  | 0 => true
  | k + 1 => shTo zs k && inB (zs.getD k 0) 0 1000
def sharesB (zs : List Int) : Bool := shTo zs zs.length && decide (zs.length ≤ 12)
theorem shTo_bad {zs : List Int} {k n : Nat} (h : k < n) (g : inB (zs.getD k 0) 0 1000 = false) : shTo zs n = false := by
  induction n with
  | zero => omega
  | succ n ih =>
    rw [shTo]
    rcases Nat.lt_or_ge k n with hl | hl
    · rw [ih hl]; rfl
    · obtain rfl : k = n := by omega
      rw [g, Bool.and_false]
theorem shTo_next {zs : List Int} {k : Nat} {z : Int} (h : shTo zs k = true) (hz : zs[k]? = some z) (g : inB z 0 1000 = true) : shTo zs (k + 1) = true := by rw [shTo, h, getD_is hz, g]; rfl
theorem sharesB_bad {zs : List Int} {k : Nat} {z : Int} (hz : zs[k]? = some z) (g : inB z 0 1000 = false) : sharesB zs = false := by
  rw [sharesB, shTo_bad (List.getElem?_eq_some_iff.1 hz).1 (by rw [getD_is hz]; exact g), Bool.false_and]
theorem sharesB_end {zs : List Int} {n : Nat} (hn : zs.length = n) (h : shTo zs n = true) : sharesB zs = decide (n ≤ 12) := by subst hn; rw [sharesB, h, Bool.true_and]
theorem sharesB_t {zs : List Int} (h : sharesB zs = true) : zs.length ≤ 12 ∧ ∀ (k : Nat), k < zs.length → 0 ≤ zs.getD k 0 ∧ zs.getD k 0 ≤ 1000 := by
  simp only [sharesB, Bool.and_eq_true, decide_eq_true_eq] at h
  refine ⟨h.2, fun k hk => ?_⟩
  cases g : inB (zs.getD k 0) 0 1000
  · rw [shTo_bad hk g] at h; simp at h
  · exact inB_t g
def discTo (p : Int) (zs : List Int) : Nat → Int
  | 0 => p
  | k + 1 => discTo p zs k - discTo p zs k * zs.getD k 0 / 1000
theorem disc_step {x z p : Int} (x0 : 0 ≤ x) (x1 : x ≤ p) (z0 : 0 ≤ z) (z1 : z ≤ 1000) : 0 ≤ x * z ∧ x * z ≤ x * 1000 ∧ 0 ≤ x - x * z / 1000 ∧ x - x * z / 1000 ≤ p := by
  have a := Int.mul_nonneg x0 z0
  have b := Int.mul_le_mul_of_nonneg_left z1 x0
  omega
theorem discTo_bd {p : Int} {zs : List Int} (p0 : 0 ≤ p) (h : ∀ (k : Nat), k < zs.length → 0 ≤ zs.getD k 0 ∧ zs.getD k 0 ≤ 1000) : ∀ k, k ≤ zs.length → 0 ≤ discTo p zs k ∧ discTo p zs k ≤ p
  | 0, _ => ⟨p0, Int.le_refl _⟩
  | k + 1, hk => by
    have ih := discTo_bd p0 h k (by omega)
    have z := h k (by omega)
    have := disc_step ih.1 ih.2 z.1 z.2
    rw [discTo]; omega
theorem discTo_next {p z : Int} {zs : List Int} {k : Nat} (hz : zs[k]? = some z) : discTo p zs (k + 1) = discTo p zs k - discTo p zs k * z / 1000 := by rw [discTo, getD_is hz]
def AfterDiscounts_L (p : Int) (zs : List Int) : Int × Int := if inB p 0 10000000 = true then (if sharesB zs = true then (discTo p zs zs.length, 0) else (0, 7)) else (0, 2)
def sumTo (zs : List Int) : Nat → Int
  | 0 => 0
  | k + 1 => sumTo zs k + zs.getD k 0
theorem sumTo_next {z : Int} {zs : List Int} {k : Nat} (hz : zs[k]? = some z) : sumTo zs (k + 1) = sumTo zs k + z := by rw [sumTo, getD_is hz]
theorem sumTo_bd {zs : List Int} (h : ∀ (k : Nat), k < zs.length → 0 ≤ zs.getD k 0 ∧ zs.getD k 0 ≤ 1000) : ∀ k, k ≤ zs.length → 0 ≤ sumTo zs k ∧ sumTo zs k ≤ 1000 * k
  | 0, _ => by simp [sumTo]
  | k + 1, hk => by
    have ih := sumTo_bd h k (by omega)
    have z := h k (by omega)
    rw [sumTo]; push_cast; omega
def splitTo (p a : Int) (zs : List Int) : Nat → List Int
  | 0 => []
  | k + 1 => splitTo p a zs k ++ [p * sumTo zs (k + 1) / a - p * sumTo zs k / a]
theorem splitTo_len (p a : Int) (zs : List Int) (k : Nat) : (splitTo p a zs k).length = k := by
  induction k with
  | zero => rfl
  | succ k ih => rw [splitTo, List.length_append, ih]; rfl
def SplitPrice_L (p : Int) (zs : List Int) : List Int × Int := if inB p 0 10000000 = true then (if sharesB zs = true then (if sumTo zs zs.length = 0 then ([], 7) else (splitTo p (sumTo zs zs.length) zs zs.length, 0)) else ([], 7)) else ([], 2)
theorem SplitPrice_bd (p : Int) (zs : List Int) : (SplitPrice_L p zs).1.length ≤ 1000000 := by
  unfold SplitPrice_L
  split
  · split
    · rename_i h
      have := sharesB_t h
      split
      · simp
      · show (splitTo p (sumTo zs zs.length) zs zs.length).length ≤ 1000000
        rw [splitTo_len]; omega
    · simp
  · simp
end Go.Proofs.Ytbkmfhdagnlgiaa
