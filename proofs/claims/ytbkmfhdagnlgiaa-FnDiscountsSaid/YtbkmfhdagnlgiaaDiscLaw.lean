/- FnDiscounts. -/
import Derived.Test.YtbkmfhdagnlgiaaBytes
import Derived.Test.YtbkmfhdagnlgiaaSplit
import Derived.Test.YtbkmfhdagnlgiaaMoney
set_option linter.unusedVariables false
namespace Go.Proofs.Ytbkmfhdagnlgiaa
open Go.RowKit

/-- a search by halves ends at a place that the test takes, and the one before it is not taken, or is the first -/
theorem bs_spec (p : Int → Bool) : ∀ (n : Nat) (lo hi : Int), (hi - lo).toNat ≤ n → lo ≤ hi → p hi = true → lo ≤ bs p lo hi ∧ bs p lo hi ≤ hi ∧ p (bs p lo hi) = true ∧ (bs p lo hi = lo ∨ p (bs p lo hi - 1) = false)
  | 0, lo, hi, hn, hl, hp => by
    have : lo = hi := by omega
    subst this
    rw [bs_end (by omega)]
    exact ⟨by omega, by omega, hp, .inl rfl⟩
  | n + 1, lo, hi, hn, hl, hp => by
    by_cases h : lo < hi
    · cases g : p ((lo + hi) / 2)
      · rw [bs_lo h g]
        obtain ⟨a, b, c, d⟩ := bs_spec p n ((lo + hi) / 2 + 1) hi (by omega) (by omega) hp
        refine ⟨by omega, b, c, .inr ?_⟩
        rcases d with d | d
        · rw [d, show (lo + hi) / 2 + 1 - 1 = (lo + hi) / 2 by omega]; exact g
        · exact d
      · rw [bs_hi h g]
        obtain ⟨a, b, c, d⟩ := bs_spec p n lo ((lo + hi) / 2) (by omega) (by omega) g
        exact ⟨a, by omega, c, d⟩
    · have : lo = hi := by omega
      subst this
      rw [bs_end (by omega)]
      exact ⟨by omega, by omega, hp, .inl rfl⟩
def dsZ (bs : List Int) (n : Nat) : List Int := (List.range n).map fun (i : Nat) => 10 * rAt bs (1 + i) 60
theorem dsZ_len (bs : List Int) (n : Nat) : (dsZ bs n).length = n := by simp [dsZ]
theorem dsZ_get {bs : List Int} {n k : Nat} (h : k < n) : (dsZ bs n)[k]? = some (10 * rAt bs (1 + k) 60) := by simp [dsZ, h]
theorem dsZ_take {bs : List Int} {n k : Nat} (h : k < n) : (dsZ bs n).take (k + 1) = (dsZ bs n).take k ++ [10 * rAt bs (1 + k) 60] := by
  have hk : k < (dsZ bs n).length := by rw [dsZ_len]; exact h
  rw [List.take_succ_eq_append_getElem hk]
  congr 2
  have := dsZ_get (bs := bs) h
  rw [List.getElem?_eq_getElem hk] at this
  injection this
theorem dsZ_bd {bs : List Int} {n : Nat} : ∀ (k : Nat), k < (dsZ bs n).length → 0 ≤ (dsZ bs n).getD k 0 ∧ (dsZ bs n).getD k 0 ≤ 1000 := by
  intro k hk
  rw [dsZ_len] at hk
  rw [getD_is (dsZ_get hk)]
  have := rAt_bd bs (1 + (k : Int)) (m := 60) (by omega)
  omega
theorem shTo_all {zs : List Int} (h : ∀ (k : Nat), k < zs.length → 0 ≤ zs.getD k 0 ∧ zs.getD k 0 ≤ 1000) : ∀ k, k ≤ zs.length → shTo zs k = true
  | 0, _ => rfl
  | k + 1, hk => by rw [shTo, shTo_all h k (by omega), inB_mk (h k (by omega))]; rfl
theorem dsZ_sh {bs : List Int} {n : Nat} (h : n ≤ 12) : sharesB (dsZ bs n) = true := by
  rw [sharesB, shTo_all dsZ_bd _ (Nat.le_refl _), dsZ_len]; simpa using h
/-- the parts of a price that is split make up the price so far -/
theorem sum_split (p a : Int) (zs : List Int) : ∀ (k : Nat), k ≤ zs.length → sumTo (splitTo p a zs zs.length) k = p * sumTo zs k / a := by
  have get : ∀ (n k : Nat), k < n → (splitTo p a zs n)[k]? = some (p * sumTo zs (k + 1) / a - p * sumTo zs k / a) := by
    intro n
    induction n with
    | zero => intro k hk; omega
    | succ n ih =>
      intro k hk
      rw [splitTo]
      by_cases e : k < n
      · rw [List.getElem?_append_left (by rw [splitTo_len]; exact e), ih k e]
      · obtain rfl : k = n := by omega
        rw [List.getElem?_append_right (by rw [splitTo_len]; omega), splitTo_len]; simp
  intro k
  induction k with
  | zero => intro _; simp [sumTo]
  | succ k ih =>
    intro hk
    rw [sumTo, ih (by omega), getD_is (get zs.length k (by omega))]
    omega
theorem split_get {p a : Int} {zs : List Int} {n k : Nat} (hk : k < n) : (splitTo p a zs n)[k]? = some (p * sumTo zs (k + 1) / a - p * sumTo zs k / a) := by
  induction n with
  | zero => omega
  | succ n ih =>
    rw [splitTo]
    by_cases e : k < n
    · rw [List.getElem?_append_left (by rw [splitTo_len]; exact e), ih e]
    · obtain rfl : k = n := by omega
      rw [List.getElem?_append_right (by rw [splitTo_len]; omega), splitTo_len]; simp
theorem gets_facts {p s l : Int} (p0 : 0 ≤ p) (p1 : p ≤ 600000) (s0 : 0 ≤ s) (s1 : s ≤ 900) (l0 : 0 ≤ l) (l1 : l ≤ 5900) : 0 ≤ getsL p s l ∧ getsL p s l ≤ p ∧ getsL p s l ≤ getsL (p + 10) s l := by
  have m := mul_bd s0 s1 p0 p1
  have e : s * (p + 10) = s * p + 10 * s := by rw [Int.mul_add]; omega
  unfold getsL
  rw [e]
  omega
theorem gets_most {a s l : Int} (a1 : a ≤ 599990) (s0 : 0 ≤ s) (s1 : s ≤ 900) (l0 : 0 ≤ l) (l1 : l ≤ 5900) : a ≤ getsL 10000000 s l := by
  unfold getsL
  omega
end Go.Proofs.Ytbkmfhdagnlgiaa
