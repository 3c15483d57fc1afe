/- Set-ups of strings: plain. -/
import Derived.Test.YtemkggecempmgaaCords
import Derived.Test.YtemkggecempmgaaDiv
set_option linter.unusedVariables false
namespace Go.Proofs.Ytemkggecempmgaa
open Go.RowKit

/-- the tension of a string with a gauge -/
def tenL (p l g : Int) : Int := divL (4 * p * p * l * l * g) 100000000000
theorem prod_bd {p l g : Int} (p0 : 1 ≤ p) (p1 : p ≤ 10000) (l0 : 1 ≤ l) (l1 : l ≤ 500) (g0 : 1 ≤ g) (g1 : g ≤ 10000) :
    (0 ≤ 4 * p ∧ 4 * p ≤ 40000) ∧ (0 ≤ 4 * p * p ∧ 4 * p * p ≤ 400000000) ∧ (0 ≤ 4 * p * p * l ∧ 4 * p * p * l ≤ 200000000000) ∧ (0 ≤ 4 * p * p * l * l ∧ 4 * p * p * l * l ≤ 100000000000000) ∧ (0 ≤ 4 * p * p * l * l * g ∧ 4 * p * p * l * l * g ≤ 1000000000000000000) := by
  have a : 0 ≤ 4 * p ∧ 4 * p ≤ 40000 := by omega
  have b := mul_bd a.1 a.2 (show 0 ≤ p by omega) p1
  have c := mul_bd b.1 b.2 (show 0 ≤ l by omega) l1
  have d := mul_bd c.1 c.2 (show 0 ≤ l by omega) l1
  have e := mul_bd d.1 d.2 (show 0 ≤ g by omega) g1
  exact ⟨a, by omega, by omega, by omega, by omega⟩
theorem tenL_bd {p l g : Int} (p0 : 1 ≤ p) (p1 : p ≤ 10000) (l0 : 1 ≤ l) (l1 : l ≤ 500) (g0 : 1 ≤ g) (g1 : g ≤ 10000) : 0 ≤ tenL p l g ∧ tenL p l g ≤ 10000000 := by
  have h := (prod_bd p0 p1 l0 l1 g0 g1).2.2.2.2
  generalize hx : 4 * p * p * l * l * g = x at h
  unfold tenL divL
  rw [hx, if_neg (by omega)]
  omega
def hoB (p l g s share : Int) : Bool := decide (1000 * tenL p l g ≤ share * s)

/-- the greatest difference -/
def spr1 (ts : List Int) (a m : Int) : Nat → Int
  | 0 => m
  | j + 1 => max (spr1 ts a m j) (max (a - ts.getD j 0) (ts.getD j 0 - a))
def sprTo (ts : List Int) : Nat → Int
  | 0 => 0
  | i + 1 => spr1 ts (ts.getD i 0) (sprTo ts i) i
def spr (ts : List Int) : Int := sprTo ts ts.length
def tsOk (ts : List Int) : Prop := ∀ k : Nat, 0 ≤ ts.getD k 0 ∧ ts.getD k 0 ≤ 10000000
theorem spr1_bd {ts : List Int} (h : tsOk ts) {a m : Int} (a0 : 0 ≤ a) (a1 : a ≤ 10000000) (m0 : 0 ≤ m) (m1 : m ≤ 10000000) : ∀ j, 0 ≤ spr1 ts a m j ∧ spr1 ts a m j ≤ 10000000
  | 0 => ⟨m0, m1⟩
  | j + 1 => by
    have ih := spr1_bd h a0 a1 m0 m1 j
    have := h j
    rw [spr1]; omega
theorem sprTo_bd {ts : List Int} (h : tsOk ts) : ∀ i, 0 ≤ sprTo ts i ∧ sprTo ts i ≤ 10000000
  | 0 => by simp [sprTo]
  | i + 1 => by
    have ih := sprTo_bd h i
    have := h i
    rw [sprTo]; exact spr1_bd h this.1 this.2 ih.1 ih.2 i
theorem spr_bd {ts : List Int} (h : tsOk ts) : 0 ≤ spr ts ∧ spr ts ≤ 10000000 := sprTo_bd h _
theorem tsOk_add {ts : List Int} {t : Int} (h : tsOk ts) (t0 : 0 ≤ t) (t1 : t ≤ 10000000) : tsOk (ts ++ [t]) := by
  intro k
  rcases Nat.lt_trichotomy k ts.length with g | g | g
  · have := h k
    simpa [List.getD, List.getElem?_append_left g] using this
  · subst g
    simp [List.getD, t0, t1]
  · have : (ts ++ [t])[k]? = none := List.getElem?_eq_none (by simp; omega)
    simp [List.getD, this]
theorem tsOk_nil : tsOk [] := fun k => by simp [List.getD]

/-! the search -/
structure SSt where
  left : Nat
  count : Nat
  best : List Int
  least : Int
def leafS (st : SSt) (given tens : List Int) : SSt :=
  if st.count = 0 ∨ spr tens < st.least then ⟨st.left - 1, st.count + 1, given, spr tens⟩ else ⟨st.left - 1, st.count + 1, st.best, st.least⟩
def lpS (ok : Int → Bool) (f : Int → SSt → Option SSt) : List Int → SSt → Option SSt
  | [], st => some st
  | g :: gs, st => if ok g = true then (match f g st with | none => none | some st' => lpS ok f gs st') else lpS ok f gs st
def tnAt (cs : List CordD) (i : Nat) (g : Int) : Int := tenL (cs.getD i ⟨0, 0, 0, 0⟩).a0 (cs.getD i ⟨0, 0, 0, 0⟩).a1 g
def okG (cs : List CordD) (most share : Int) (i : Nat) (sum g : Int) : Bool := hoB (cs.getD i ⟨0, 0, 0, 0⟩).a0 (cs.getD i ⟨0, 0, 0, 0⟩).a1 g (cs.getD i ⟨0, 0, 0, 0⟩).a3 share && decide (sum + tnAt cs i g ≤ most)
/-- d strings are left -/
def srch (cs : List CordD) (gs : List (List Int)) (most share : Int) : Nat → List Int → List Int → Int → SSt → Option SSt
  | 0, given, tens, sum, st => if st.left = 0 then none else some (leafS st given tens)
  | d + 1, given, tens, sum, st => if st.left = 0 then none else
      lpS (okG cs most share (cs.length - (d + 1)) sum) (fun g st => srch cs gs most share d (given ++ [g]) (tens ++ [tnAt cs (cs.length - (d + 1)) g]) (sum + tnAt cs (cs.length - (d + 1)) g) st) (gs.getD (cs.length - (d + 1)) []) ⟨st.left - 1, st.count, st.best, st.least⟩
theorem lpS_left {ok : Int → Bool} {f : Int → SSt → Option SSt} (hf : ∀ g st st', f g st = some st' → st'.left ≤ st.left) : ∀ l st st', lpS ok f l st = some st' → st'.left ≤ st.left
  | [], st, st', h => by simp [lpS] at h; subst h; exact Nat.le_refl _
  | g :: gs, st, st', h => by
    rw [lpS] at h
    split at h
    · cases e : f g st with
      | none => rw [e] at h; cases h
      | some s2 =>
        rw [e] at h
        exact Nat.le_trans (lpS_left hf gs s2 st' h) (hf g st s2 e)
    · exact lpS_left hf gs st st' h
theorem srch_left {cs : List CordD} {gs : List (List Int)} {most share : Int} : ∀ d given tens sum st st', srch cs gs most share d given tens sum st = some st' → st'.left + 1 ≤ st.left
  | 0, given, tens, sum, st, st', h => by
    rw [srch] at h
    split at h
    · cases h
    · injection h with h
      subst h
      unfold leafS
      split <;> simp <;> omega
  | d + 1, given, tens, sum, st, st', h => by
    rw [srch] at h
    split at h
    · cases h
    · have := lpS_left (fun g st st' e => Nat.le_of_succ_le (srch_left d _ _ _ st st' e)) _ _ _ h
      simp at this
      omega
theorem lpS_cnt {ok : Int → Bool} {f : Int → SSt → Option SSt} (hf : ∀ g st st', f g st = some st' → st'.count + st'.left ≤ st.count + st.left) : ∀ l st st', lpS ok f l st = some st' → st'.count + st'.left ≤ st.count + st.left
  | [], st, st', h => by simp [lpS] at h; subst h; exact Nat.le_refl _
  | g :: gs, st, st', h => by
    rw [lpS] at h
    split at h
    · cases e : f g st with
      | none => rw [e] at h; cases h
      | some s2 =>
        rw [e] at h
        exact Nat.le_trans (lpS_cnt hf gs s2 st' h) (hf g st s2 e)
    · exact lpS_cnt hf gs st st' h
theorem srch_cnt {cs : List CordD} {gs : List (List Int)} {most share : Int} : ∀ d given tens sum st st', srch cs gs most share d given tens sum st = some st' → st'.count + st'.left ≤ st.count + st.left
  | 0, given, tens, sum, st, st', h => by
    rw [srch] at h
    split at h
    · cases h
    · injection h with h
      subst h
      unfold leafS
      split <;> simp <;> omega
  | d + 1, given, tens, sum, st, st', h => by
    rw [srch] at h
    split at h
    · cases h
    · have := lpS_cnt (fun g st st' e => srch_cnt d _ _ _ st st' e) _ _ _ h
      simp at this
      omega
end Go.Proofs.Ytemkggecempmgaa
