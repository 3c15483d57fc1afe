/- Lists of structs in the order of their names: plain. -/
import Derived.Test.YtoodlpgamlelaaaRd
set_option linter.unusedVariables false
namespace Go.Proofs.Ytoodlpgamlelaaa
open Go.RowKit

def lessB (s t : ByteArray) : Bool := Op.bytesLess s.toList t.toList
section
variable {α : Type} (p : α → Bool) (key : α → ByteArray) (ds : List α)
def ordAt : Nat → Bool
  | 0 => (ds[0]?.map p).getD true
  | i + 1 => (ds[i + 1]?.map p).getD true && ((ds[i]?.bind fun y => ds[i + 1]?.map fun x => lessB (key y) (key x)).getD true)
def ordTo : Nat → Bool
  | 0 => true
  | i + 1 => ordTo i && ordAt p key ds i
def ordB : Bool := ordTo p key ds ds.length
variable {p key ds}
theorem ordTo_bad {k n : Nat} (h : k < n) (g : ordAt p key ds k = false) : ordTo p key ds n = false := by
  induction n with
  | zero => omega
  | succ n ih =>
    rw [ordTo]
    rcases Nat.lt_or_ge k n with hl | hl
    · rw [ih hl]; rfl
    · obtain rfl : k = n := by omega
      rw [g, Bool.and_false]
theorem ordB_bad {k : Nat} (h : k < ds.length) (g : ordAt p key ds k = false) : ordB p key ds = false := ordTo_bad h g
theorem ordTo_next {k : Nat} (h : ordTo p key ds k = true) (g : ordAt p key ds k = true) : ordTo p key ds (k + 1) = true := by rw [ordTo, h, g]; rfl
theorem ordAt_no {k : Nat} {x : α} (hx : ds[k]? = some x) (g : p x = false) : ordAt p key ds k = false := by
  cases k <;> simp [ordAt, hx, g]
theorem ordAt_zero {x : α} (hx : ds[0]? = some x) (g : p x = true) : ordAt p key ds 0 = true := by simp [ordAt, hx, g]
theorem ordAt_is {k : Nat} {x y : α} (hk : 0 < k) (hx : ds[k]? = some x) (hy : ds[k - 1]? = some y) (g : p x = true) : ordAt p key ds k = lessB (key y) (key x) := by
  obtain ⟨j, rfl⟩ : ∃ j, k = j + 1 := ⟨k - 1, by omega⟩
  simp at hy
  simp [ordAt, hx, hy, g]
end
end Go.Proofs.Ytoodlpgamlelaaa
