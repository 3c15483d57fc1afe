/- Plain functions on numbers: the first number that a test takes; a search by halves. No program in sight. -/
import Derived.WalkKit
set_option linter.unusedVariables false
namespace Go.Proofs.Ytoodlpgamlelaaa

/-- the least number of k .. k + n - 1 that p takes -/
def firstN (p : Int → Bool) (k : Nat) : Nat → Option Int
  | 0 => none
  | n + 1 => if p k = true then some (k : Int) else firstN p (k + 1) n
theorem firstN_t {p : Int → Bool} {k m : Nat} (hk : k < m) (h : p k = true) : firstN p k (m - k) = some (k : Int) := by
  obtain ⟨n, hn⟩ : ∃ n, m - k = n + 1 := ⟨m - k - 1, by omega⟩
  rw [hn, firstN, if_pos h]
theorem firstN_f {p : Int → Bool} {k m : Nat} (hk : k < m) (h : p k = false) : firstN p k (m - k) = firstN p (k + 1) (m - (k + 1)) := by
  obtain ⟨n, hn⟩ : ∃ n, m - k = n + 1 := ⟨m - k - 1, by omega⟩
  rw [hn, firstN, if_neg (by simp [h]), show m - (k + 1) = n by omega]

/-- a search by halves: from lo to hi -/
def bs (p : Int → Bool) (lo hi : Int) : Int :=
  if lo < hi then
    if p ((lo + hi) / 2) = true then bs p lo ((lo + hi) / 2) else bs p ((lo + hi) / 2 + 1) hi
  else lo
termination_by (hi - lo).toNat
decreasing_by all_goals omega
theorem bs_hi {p : Int → Bool} {lo hi : Int} (h : lo < hi) (g : p ((lo + hi) / 2) = true) : bs p lo hi = bs p lo ((lo + hi) / 2) := by
  rw [bs, if_pos h, if_pos g]
theorem bs_lo {p : Int → Bool} {lo hi : Int} (h : lo < hi) (g : p ((lo + hi) / 2) = false) : bs p lo hi = bs p ((lo + hi) / 2 + 1) hi := by
  rw [bs, if_pos h, if_neg (by simp [g])]
theorem bs_end {p : Int → Bool} {lo hi : Int} (h : ¬ lo < hi) : bs p lo hi = lo := by
  rw [bs, if_neg h]
end Go.Proofs.Ytoodlpgamlelaaa
