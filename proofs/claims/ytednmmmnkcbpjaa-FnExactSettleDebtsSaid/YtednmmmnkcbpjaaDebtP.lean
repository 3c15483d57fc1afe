/- Settling of debts: what it computes, plain. -/
import Derived.Test.YtednmmmnkcbpjaaOrd
import Derived.Test.YtednmmmnkcbpjaaLines
import Derived.Test.YtednmmmnkcbpjaaNames
set_option linter.unusedVariables false
set_option linter.unusedSimpArgs false
namespace Go.Proofs.Ytednmmmnkcbpjaa
open Go.RowKit

/-- the place of the least number among the first k -/
def loTo (l : List Int) : Nat → Nat
  | 0 => 0
  | k + 1 => if l.getD k 0 < l.getD (loTo l k) 0 then k else loTo l k
/-- the place of the greatest number among the first k -/
def hiTo (l : List Int) : Nat → Nat
  | 0 => 0
  | k + 1 => if l.getD (hiTo l k) 0 < l.getD k 0 then k else hiTo l k
theorem loTo_lt {l : List Int} : ∀ k, loTo l k = 0 ∨ loTo l k < k
  | 0 => .inl rfl
  | k + 1 => by
    have := loTo_lt (l := l) k
    rw [loTo]
    split <;> omega
theorem hiTo_lt {l : List Int} : ∀ k, hiTo l k = 0 ∨ hiTo l k < k
  | 0 => .inl rfl
  | k + 1 => by
    have := hiTo_lt (l := l) k
    rw [hiTo]
    split <;> omega
theorem loTo_min {l : List Int} : ∀ k j, j < k → l.getD (loTo l k) 0 ≤ l.getD j 0
  | 0, j, h => absurd h (by omega)
  | k + 1, j, h => by
    have ih := loTo_min (l := l) k
    rw [loTo]
    by_cases e : j = k
    · subst e; split <;> omega
    · have := ih j (by omega); split <;> omega
theorem hiTo_max {l : List Int} : ∀ k j, j < k → l.getD j 0 ≤ l.getD (hiTo l k) 0
  | 0, j, h => absurd h (by omega)
  | k + 1, j, h => by
    have ih := hiTo_max (l := l) k
    rw [hiTo]
    by_cases e : j = k
    · subst e; split <;> omega
    · have := ih j (by omega); split <;> omega
/-- the reference's least: the place of the first least one below 0, or -1 -/
def sloTo (l : List Int) : Nat → Int
  | 0 => -1
  | k + 1 => if l.getD k 0 < 0 ∧ (sloTo l k < 0 ∨ l.getD k 0 < l.getD (sloTo l k).toNat 0) then k else sloTo l k
def shiTo (l : List Int) : Nat → Int
  | 0 => -1
  | k + 1 => if 0 < l.getD k 0 ∧ (shiTo l k < 0 ∨ l.getD (shiTo l k).toNat 0 < l.getD k 0) then k else shiTo l k
theorem slo_is {l : List Int} : ∀ k, sloTo l k = if 0 < k ∧ l.getD (loTo l k) 0 < 0 then (loTo l k : Int) else -1
  | 0 => by simp [sloTo]
  | k + 1 => by
    have ih := slo_is (l := l) k
    have q := loTo_lt (l := l) k
    have z : k = 0 → loTo l k = k := by intro h; subst h; rfl
    rw [sloTo, ih, loTo]
    by_cases h0 : 0 < k
    · by_cases h1 : l.getD (loTo l k) 0 < 0
      · rw [if_pos (show 0 < k ∧ _ from ⟨h0, h1⟩)]
        simp only [Int.toNat_natCast]
        by_cases h2 : l.getD k 0 < l.getD (loTo l k) 0
        · rw [if_pos ⟨by omega, .inr h2⟩, if_pos h2, if_pos ⟨by omega, by omega⟩]
        · rw [if_neg (fun h => h.2.elim (fun h => by omega) h2), if_neg h2, if_pos ⟨by omega, h1⟩]
      · rw [if_neg (show ¬ (0 < k ∧ _) from fun h => h1 h.2)]
        by_cases h2 : l.getD k 0 < 0
        · have h3 : l.getD k 0 < l.getD (loTo l k) 0 := by omega
          rw [if_pos ⟨h2, .inl (by omega)⟩, if_pos h3, if_pos ⟨by omega, h2⟩]
        · rw [if_neg (fun h => h2 h.1)]
          by_cases h3 : l.getD k 0 < l.getD (loTo l k) 0
          · rw [if_pos h3, if_neg (fun h => h2 h.2)]
          · rw [if_neg h3, if_neg (fun h => h1 h.2)]
    · obtain rfl : k = 0 := by omega
      simp only [loTo]
      simp
theorem shi_is {l : List Int} : ∀ k, shiTo l k = if 0 < k ∧ 0 < l.getD (hiTo l k) 0 then (hiTo l k : Int) else -1
  | 0 => by simp [shiTo]
  | k + 1 => by
    have ih := shi_is (l := l) k
    have q := hiTo_lt (l := l) k
    rw [shiTo, ih, hiTo]
    by_cases h0 : 0 < k
    · by_cases h1 : 0 < l.getD (hiTo l k) 0
      · rw [if_pos (show 0 < k ∧ _ from ⟨h0, h1⟩)]
        simp only [Int.toNat_natCast]
        by_cases h2 : l.getD (hiTo l k) 0 < l.getD k 0
        · rw [if_pos ⟨by omega, .inr h2⟩, if_pos h2, if_pos ⟨by omega, by omega⟩]
        · rw [if_neg (fun h => h.2.elim (fun h => by omega) h2), if_neg h2, if_pos ⟨by omega, h1⟩]
      · rw [if_neg (show ¬ (0 < k ∧ _) from fun h => h1 h.2)]
        by_cases h2 : 0 < l.getD k 0
        · have h3 : l.getD (hiTo l k) 0 < l.getD k 0 := by omega
          rw [if_pos ⟨h2, .inl (by omega)⟩, if_pos h3, if_pos ⟨by omega, h2⟩]
        · rw [if_neg (fun h => h2 h.1)]
          by_cases h3 : l.getD (hiTo l k) 0 < l.getD k 0
          · rw [if_pos h3, if_neg (fun h => h2 h.2)]
          · rw [if_neg h3, if_neg (fun h => h1 h.2)]
    · obtain rfl : k = 0 := by omega
      simp only [hiTo]
      simp
def sm : List Int → Int
  | [] => 0
  | a :: l => a + sm l
theorem sm_set : ∀ (l : List Int) (i : Nat) (a : Int), i < l.length → sm (l.set i a) = sm l - l.getD i 0 + a
  | [], i, a, h => absurd h (by simp)
  | b :: l, 0, a, h => by simp [sm]; omega
  | b :: l, i + 1, a, h => by
    have := sm_set l i a (by simpa using h)
    simp [sm] at *
    omega
theorem sm_zero : ∀ (l : List Int), (∀ x ∈ l, 0 ≤ x) → 0 ≤ sm l ∧ (sm l = 0 → ∀ x ∈ l, x = 0)
  | [], _ => by simp [sm]
  | a :: l, h => by
    obtain ⟨h1, h2⟩ := sm_zero l fun x hx => h x (List.mem_cons_of_mem _ hx)
    have h3 := h a List.mem_cons_self
    refine ⟨by simp [sm]; omega, fun e x hx => ?_⟩
    simp [sm] at e
    rcases List.mem_cons.1 hx with rfl | hx
    · omega
    · exact h2 (by omega) x hx
theorem sm_zero' : ∀ (l : List Int), (∀ x ∈ l, x ≤ 0) → sm l ≤ 0 ∧ (sm l = 0 → ∀ x ∈ l, x = 0)
  | [], _ => by simp [sm]
  | a :: l, h => by
    obtain ⟨h1, h2⟩ := sm_zero' l fun x hx => h x (List.mem_cons_of_mem _ hx)
    have h3 := h a List.mem_cons_self
    refine ⟨by simp [sm]; omega, fun e x hx => ?_⟩
    simp [sm] at e
    rcases List.mem_cons.1 hx with rfl | hx
    · omega
    · exact h2 (by omega) x hx
def lo (l : List Int) : Nat := loTo l l.length
def hi (l : List Int) : Nat := hiTo l l.length
theorem mem_getD {l : List Int} {x : Int} (h : x ∈ l) : ∃ i, i < l.length ∧ l.getD i 0 = x := by
  obtain ⟨i, hi, e⟩ := List.mem_iff_getElem.1 h
  exact ⟨i, hi, by simp [List.getElem?_eq_getElem hi, e]⟩
theorem getD_mem {l : List Int} {i : Nat} (h : i < l.length) : l.getD i 0 ∈ l := by
  simp [List.getElem?_eq_getElem h]
theorem debt_two {l : List Int} (h0 : sm l = 0) : (l.getD (lo l) 0 < 0 ∧ 0 < l.getD (hi l) 0) ∨ (l.getD (lo l) 0 = 0 ∧ l.getD (hi l) 0 = 0) := by
  by_cases hn : 0 < l.length
  · have a := loTo_lt (l := l) l.length
    have b := hiTo_lt (l := l) l.length
    have ml := getD_mem (l := l) (i := lo l) (by unfold lo; omega)
    have mh := getD_mem (l := l) (i := hi l) (by unfold hi; omega)
    by_cases h1 : l.getD (lo l) 0 < 0
    · by_cases h2 : 0 < l.getD (hi l) 0
      · exact .inl ⟨h1, h2⟩
      · have := (sm_zero' l fun x hx => by
          obtain ⟨i, hi', e⟩ := mem_getD hx
          have := hiTo_max (l := l) l.length i hi'
          unfold hi at h2
          omega).2 h0
        have := this _ ml
        omega
    · have z := (sm_zero l fun x hx => by
        obtain ⟨i, hi', e⟩ := mem_getD hx
        have := loTo_min (l := l) l.length i hi'
        unfold lo at h1
        omega).2 h0
      exact .inr ⟨z _ ml, z _ mh⟩
  · have : l = [] := List.length_eq_zero_iff.1 (by omega)
    subst this
    exact .inr ⟨rfl, rfl⟩
/-- how much the next entry settles -/
def amt (l : List Int) : Int := if - l.getD (lo l) 0 < l.getD (hi l) 0 then - l.getD (lo l) 0 else l.getD (hi l) 0
def stepL (l : List Int) : List Int := (l.set (lo l) (l.getD (lo l) 0 + amt l)).set (hi l) (l.getD (hi l) 0 - amt l)
def nz (l : List Int) : Nat := l.countP (fun x => x != 0)
theorem nz_set {l : List Int} {i : Nat} {a : Int} (h : i < l.length) : nz (l.set i a) + (if l.getD i 0 = 0 then 0 else 1) = nz l + (if a = 0 then 0 else 1) := by
  induction l generalizing i with
  | nil => simp at h
  | cons b l ih =>
    cases i with
    | zero => simp [nz, List.countP_cons]; by_cases e : b = 0 <;> by_cases f : a = 0 <;> simp [e, f] <;> omega
    | succ i => have := ih (i := i) (by simpa using h); simp [nz, List.countP_cons] at *; omega
theorem nz_le (l : List Int) : nz l ≤ l.length := List.countP_le_length
theorem step_len (l : List Int) : (stepL l).length = l.length := by simp [stepL]
theorem step_sm {l : List Int} (h : sm l = 0) (hp : l.getD (lo l) 0 < 0 ∧ 0 < l.getD (hi l) 0) (hn : lo l < l.length ∧ hi l < l.length) : sm (stepL l) = 0 ∧ nz (stepL l) + 1 ≤ nz l := by
  have hne : lo l ≠ hi l := by intro e; rw [e] at hp; omega
  have e1 : (l.set (lo l) (l.getD (lo l) 0 + amt l)).getD (hi l) 0 = l.getD (hi l) 0 := by simp [List.getElem?_set_ne hne]
  refine ⟨?_, ?_⟩
  · unfold stepL
    rw [sm_set _ _ _ (by simpa using hn.2), e1, sm_set _ _ _ hn.1]
    omega
  · have a := nz_set (l := l) (a := l.getD (lo l) 0 + amt l) hn.1
    have b := nz_set (l := l.set (lo l) (l.getD (lo l) 0 + amt l)) (i := hi l) (a := l.getD (hi l) 0 - amt l) (by simpa using hn.2)
    rw [e1] at b
    rw [if_neg (by omega)] at a b
    unfold stepL
    have c : l.getD (lo l) 0 + amt l = 0 ∨ l.getD (hi l) 0 - amt l = 0 := by unfold amt; split <;> omega
    rcases c with c | c
    · rw [if_pos c] at a; split at b <;> omega
    · rw [if_pos c] at b; split at a <;> omega

structure EntryD where
  a0 : Int
  s1 : ByteArray
  s2 : ByteArray
  a3 : Int
def entryF (x : EntryD) : List Value := [.int .i64 x.a0, .string x.s1, .string x.s2, .int .i64 x.a3]
theorem entryF_len (x : EntryD) : (entryF x).length = 4 := rfl
abbrev entryV (a0 : Int) (s1 s2 : ByteArray) (a3 : Int) : Value := .agg #[.int .i64 a0, .string s1, .string s2, .int .i64 a3]
/-- the cells of names -/
def sv (ss : List ByteArray) : List Value := ss.map (.string ·)
theorem sv_len (ss : List ByteArray) : (sv ss).length = ss.length := by simp [sv]
theorem sv_get {ss : List ByteArray} {i : Nat} {s : ByteArray} (h : ss[i]? = some s) : (sv ss)[i]? = some (.string s) := by simp [sv, h]
def nmD (ss : List ByteArray) (i : Nat) : ByteArray := ss.getD i ByteArray.empty
def entD (ss : List ByteArray) (l : List Int) : EntryD := ⟨0, nmD ss (lo l), nmD ss (hi l), amt l⟩
/-- what is written when debts are settled -/
inductive Settles (ss : List ByteArray) : List Int → List EntryD → Prop
  | stop {l} (h : l.getD (lo l) 0 = 0 ∧ l.getD (hi l) 0 = 0) : Settles ss l []
  | step {l es} (h : l.getD (lo l) 0 < 0 ∧ 0 < l.getD (hi l) 0) (g : Settles ss (stepL l) es) : Settles ss l (entD ss l :: es)
theorem Settles.one {ss : List ByteArray} {l : List Int} {es es' : List EntryD} (h : Settles ss l es) (h' : Settles ss l es') : es = es' := by
  induction h generalizing es' with
  | stop h =>
    cases h' with
    | stop => rfl
    | step h1 _ => omega
  | step h g ih =>
    cases h' with
    | stop h1 => omega
    | step _ g1 => rw [ih g1]
theorem Settles.len {ss : List ByteArray} {l : List Int} {es : List EntryD} (h : Settles ss l es) (n : Nat) (hn : l.length = n) (h0 : sm l = 0) : es.length ≤ nz l := by
  induction h with
  | stop h => simp
  | @step l es h g ih =>
    have hl : 0 < l.length := by
      rcases Nat.eq_zero_or_pos l.length with e | e
      · have : l = [] := List.length_eq_zero_iff.1 e
        subst this
        have := h.1
        simp at this
      · exact e
    have a := loTo_lt (l := l) l.length
    have b := hiTo_lt (l := l) l.length
    have := step_sm h0 h ⟨by unfold lo; omega, by unfold hi; omega⟩
    have := ih (by rw [step_len]; exact hn) this.1
    simp only [List.length_cons]
    omega
/-- the code of debts: 0, or why not -/
def rangeTo (l : List Int) : Nat → Bool
  | 0 => true
  | k + 1 => rangeTo l k && inB (l.getD k 0) (-10000000) 10000000
def namesB (ss : List ByteArray) : Bool := ordTo nameB id ss ss.length
def debtC (ss : List ByteArray) (l : List Int) : Int :=
  if namesB ss = false then 1 else if rangeTo l l.length = false then 2 else if ¬ (ss.length = l.length) ∨ 16 < ss.length then 7 else if ¬ sm l = 0 then 6 else 0
def smTo (l : List Int) : Nat → Int
  | 0 => 0
  | k + 1 => smTo l k + l.getD k 0
theorem sm_app : ∀ (a b : List Int), sm (a ++ b) = sm a + sm b
  | [], b => by simp [sm]
  | x :: a, b => by have := sm_app a b; simp [sm] at *; omega
theorem smTo_is {l : List Int} : ∀ k, k ≤ l.length → smTo l k = sm (l.take k)
  | 0, _ => by simp [smTo, sm]
  | k + 1, h => by
    have ih := smTo_is (l := l) k (by omega)
    rw [smTo, ih, List.take_succ_eq_append_getElem (show k < l.length by omega), sm_app]
    simp [sm, List.getElem?_eq_getElem (show k < l.length by omega)]
theorem smTo_all (l : List Int) : smTo l l.length = sm l := by rw [smTo_is _ (Nat.le_refl _), List.take_length]
theorem rangeTo_at {l : List Int} : ∀ {n : Nat}, rangeTo l n = true → ∀ i, i < n → -10000000 ≤ l.getD i 0 ∧ l.getD i 0 ≤ 10000000
  | 0, _, i, h => absurd h (by omega)
  | n + 1, h, i, hi => by
    rw [rangeTo, Bool.and_eq_true] at h
    by_cases e : i = n
    · subst e; exact inB_t h.2
    · exact rangeTo_at h.1 i (by omega)
theorem rangeTo_next {l : List Int} {k : Nat} (h : rangeTo l k = true) (g : inB (l.getD k 0) (-10000000) 10000000 = true) : rangeTo l (k + 1) = true := by rw [rangeTo, h, g]; rfl
theorem rangeTo_bad {l : List Int} {k n : Nat} (h : k < n) (g : inB (l.getD k 0) (-10000000) 10000000 = false) : rangeTo l n = false := by
  induction n with
  | zero => omega
  | succ n ih =>
    rw [rangeTo]
    rcases Nat.lt_or_ge k n with hl | hl
    · rw [ih hl]; rfl
    · obtain rfl : k = n := by omega
      rw [g, Bool.and_false]
theorem smTo_bd {l : List Int} : ∀ k, rangeTo l k = true → -10000000 * (k : Int) ≤ smTo l k ∧ smTo l k ≤ 10000000 * (k : Int)
  | 0, _ => by simp [smTo]
  | k + 1, h => by
    rw [rangeTo, Bool.and_eq_true] at h
    have := smTo_bd k h.1
    have := inB_t h.2
    rw [smTo]
    omega
end Go.Proofs.Ytednmmmnkcbpjaa
