/- Set-ups of strings: what the search finds (plain). -/
import Derived.Test.YtemkggecempmgaaSetP
set_option linter.unusedVariables false
namespace Go.Proofs.Ytemkggecempmgaa
open Go.RowKit

section
variable (cs : List CordD) (gs : List (List Int)) (most share : Int)
/-- gauges of the strings from i on that are drawn and hold -/
def Ch : Nat → List Int → Prop
  | _, [] => True
  | i, z :: zs => z ∈ gs.getD i [] ∧ hoB (cs.getD i ⟨0, 0, 0, 0⟩).a0 (cs.getD i ⟨0, 0, 0, 0⟩).a1 z (cs.getD i ⟨0, 0, 0, 0⟩).a3 share = true ∧ Ch (i + 1) zs
/-- their tensions -/
def tsF : Nat → List Int → List Int
  | _, [] => []
  | i, z :: zs => tnAt cs i z :: tsF (i + 1) zs
def sumL : List Int → Int
  | [] => 0
  | a :: l => a + sumL l
theorem sumL_app (a b : List Int) : sumL (a ++ b) = sumL a + sumL b := by
  induction a with
  | nil => simp [sumL]
  | cons x l ih => simp [sumL, ih]; omega
theorem tsF_len : ∀ (i : Nat) (zs : List Int), (tsF cs i zs).length = zs.length
  | _, [] => rfl
  | i, z :: zs => by simp [tsF, tsF_len (i + 1) zs]
theorem tsF_add : ∀ (i : Nat) (zs : List Int) (z : Int), tsF cs i (zs ++ [z]) = tsF cs i zs ++ [tnAt cs (i + zs.length) z]
  | i, [], z => by simp [tsF]
  | i, y :: zs, z => by
    have := tsF_add (i + 1) zs z
    simp only [List.cons_append, tsF, this, List.length_cons]
    rw [show i + 1 + zs.length = i + (zs.length + 1) by omega]
theorem Ch_add : ∀ (i : Nat) (zs : List Int) (z : Int), Ch cs gs share i zs → z ∈ gs.getD (i + zs.length) [] → hoB (cs.getD (i + zs.length) ⟨0, 0, 0, 0⟩).a0 (cs.getD (i + zs.length) ⟨0, 0, 0, 0⟩).a1 z (cs.getD (i + zs.length) ⟨0, 0, 0, 0⟩).a3 share = true → Ch cs gs share i (zs ++ [z])
  | i, [], z, _, h1, h2 => ⟨by simpa using h1, by simpa using h2, trivial⟩
  | i, y :: zs, z, h, h1, h2 => by
    rw [List.length_cons, show i + (zs.length + 1) = i + 1 + zs.length by omega] at h1 h2
    exact ⟨h.1, h.2.1, Ch_add (i + 1) zs z h.2.2 h1 h2⟩
/-- the tensions of whatever is drawn are not negative -/
def TnP : Prop := ∀ i z, z ∈ gs.getD i [] → 0 ≤ tnAt cs i z
theorem sum_nn (h : TnP cs gs) : ∀ (i : Nat) (zs : List Int), Ch cs gs share i zs → 0 ≤ sumL (tsF cs i zs)
  | _, [], _ => by simp [tsF, sumL]
  | i, z :: zs, hc => by
    have := sum_nn h (i + 1) zs hc.2.2
    have := h i z hc.1
    simp only [tsF, sumL]; omega
/-- what never turns worse -/
def StLe (a b : SSt) : Prop := a.count ≤ b.count ∧ (0 < a.count → b.least ≤ a.least)
theorem StLe.refl (a : SSt) : StLe a a := ⟨Nat.le_refl _, fun _ => Int.le_refl _⟩
theorem StLe.trans {a b c : SSt} (h : StLe a b) (k : StLe b c) : StLe a c :=
  ⟨Nat.le_trans h.1 k.1, fun h0 => Int.le_trans (k.2 (Nat.lt_of_lt_of_le h0 h.1)) (h.2 h0)⟩
theorem leaf_le (st : SSt) (g t : List Int) : StLe st (leafS st g t) ∧ 0 < (leafS st g t).count ∧ (leafS st g t).least ≤ spr t := by
  unfold leafS StLe
  split
  · rename_i h
    refine ⟨⟨by simp, fun h0 => ?_⟩, by simp, by simp⟩
    rcases h with h | h
    · omega
    · simp; omega
  · rename_i h
    refine ⟨⟨by simp, fun h0 => by simp⟩, by simp, ?_⟩
    simp; omega
theorem lpS_le {ok : Int → Bool} {f : Int → SSt → Option SSt} (hf : ∀ g st st', f g st = some st' → StLe st st') : ∀ l st st', lpS ok f l st = some st' → StLe st st'
  | [], st, st', h => by simp [lpS] at h; subst h; exact StLe.refl _
  | g :: gs, st, st', h => by
    rw [lpS] at h
    split at h
    · cases e : f g st with
      | none => rw [e] at h; cases h
      | some s2 =>
        rw [e] at h
        exact (hf g st s2 e).trans (lpS_le hf gs s2 st' h)
    · exact lpS_le hf gs st st' h
theorem srch_le : ∀ d given tens sum st st', srch cs gs most share d given tens sum st = some st' → StLe st st'
  | 0, given, tens, sum, st, st', h => by
    rw [srch] at h
    split at h
    · cases h
    · injection h with h
      subst h
      exact (leaf_le st given tens).1
  | d + 1, given, tens, sum, st, st', h => by
    rw [srch] at h
    split at h
    · cases h
    · have := lpS_le (fun g st st' e => srch_le d _ _ _ st st' e) _ _ _ h
      exact this
theorem lpS_hit {ok : Int → Bool} {f : Int → SSt → Option SSt} {P : SSt → Prop} (hf : ∀ g st st', f g st = some st' → StLe st st') (hP : ∀ a b, StLe a b → P a → P b) {z : Int} (hz : ok z = true) (hg : ∀ st st', f z st = some st' → P st') : ∀ l st st', z ∈ l → lpS ok f l st = some st' → P st'
  | [], st, st', hm, h => by simp at hm
  | g :: gs, st, st', hm, h => by
    rw [lpS] at h
    by_cases e : g = z
    · subst e
      rw [if_pos hz] at h
      cases e2 : f g st with
      | none => rw [e2] at h; cases h
      | some s2 =>
        rw [e2] at h
        exact hP _ _ (lpS_le hf gs s2 st' h) (hg st s2 e2)
    · have hm2 : z ∈ gs := by
        rcases List.mem_cons.1 hm with h | h
        · exact absurd h.symm e
        · exact h
      split at h
      · cases e2 : f g st with
        | none => rw [e2] at h; cases h
        | some s2 => rw [e2] at h; exact lpS_hit hf hP hz hg gs s2 st' hm2 h
      · exact lpS_hit hf hP hz hg gs st st' hm2 h
/-- no set-up that fits has less -/
theorem srch_comp (hT : TnP cs gs) : ∀ d given tens sum st st' zs, given.length + d = cs.length → zs.length = d → Ch cs gs share given.length zs → sum + sumL (tsF cs given.length zs) ≤ most →
    srch cs gs most share d given tens sum st = some st' → 0 < st'.count ∧ st'.least ≤ spr (tens ++ tsF cs given.length zs)
  | 0, given, tens, sum, st, st', zs, hl, hz, hc, hs, h => by
    obtain rfl : zs = [] := List.eq_nil_of_length_eq_zero hz
    rw [srch] at h
    split at h
    · cases h
    · injection h with h
      subst h
      have := leaf_le st given tens
      rw [tsF, List.append_nil]
      exact this.2
  | d + 1, given, tens, sum, st, st', zs, hl, hz, hc, hs, h => by
    match zs, hz with
    | z :: zs, hz =>
    rw [srch] at h
    split at h
    · cases h
    · have hi : cs.length - (d + 1) = given.length := by omega
      rw [hi] at h
      have nn := sum_nn cs gs share hT _ _ hc.2.2
      simp only [tsF, sumL] at hs ⊢
      have hok : okG cs most share given.length sum z = true := by
        rw [okG, hc.2.1]
        simp; omega
      refine lpS_hit (P := fun s => 0 < s.count ∧ s.least ≤ spr (tens ++ tnAt cs given.length z :: tsF cs (given.length + 1) zs)) (fun g st st' e => srch_le cs gs most share d _ _ _ st st' e) ?_ hok ?_ _ _ _ hc.1 h
      · intro a b hab ha
        exact ⟨Nat.lt_of_lt_of_le ha.1 hab.1, Int.le_trans (hab.2 ha.1) ha.2⟩
      · intro s s' hs'
        have := srch_comp hT d (given ++ [z]) (tens ++ [tnAt cs given.length z]) (sum + tnAt cs given.length z) s s' zs (by simp; omega) (by simpa using hz) (by simpa using hc.2.2) (by simp; omega) hs'
        simpa using this
/-- what is found fits -/
def Fnd (n : Nat) (st : SSt) : Prop := 0 < st.count → st.best.length = n ∧ Ch cs gs share 0 st.best ∧ sumL (tsF cs 0 st.best) ≤ most ∧ st.least = spr (tsF cs 0 st.best)
theorem lpS_inv {ok : Int → Bool} {f : Int → SSt → Option SSt} {P : SSt → Prop} : ∀ l st st', (∀ g, g ∈ l → ok g = true → ∀ st st', P st → f g st = some st' → P st') → P st → lpS ok f l st = some st' → P st'
  | [], st, st', _, hp, h => by simp [lpS] at h; subst h; exact hp
  | g :: gs, st, st', hf, hp, h => by
    rw [lpS] at h
    split at h
    · rename_i ho
      cases e : f g st with
      | none => rw [e] at h; cases h
      | some s2 =>
        rw [e] at h
        exact lpS_inv gs s2 st' (fun g hg => hf g (List.mem_cons_of_mem _ hg)) (hf g List.mem_cons_self ho st s2 hp e) h
    · exact lpS_inv gs st st' (fun g hg => hf g (List.mem_cons_of_mem _ hg)) hp h
theorem srch_found : ∀ d given tens sum st st', given.length + d = cs.length → tens = tsF cs 0 given → sum = sumL tens → sum ≤ most → Ch cs gs share 0 given → Fnd cs gs most share cs.length st →
    srch cs gs most share d given tens sum st = some st' → Fnd cs gs most share cs.length st'
  | 0, given, tens, sum, st, st', hl, ht, hs, hm, hc, hf, h => by
    rw [srch] at h
    split at h
    · cases h
    · injection h with h
      subst h ht hs
      unfold leafS
      split
      · exact fun _ => ⟨by simpa using hl, hc, hm, rfl⟩
      · rename_i hn
        intro _
        exact hf (by omega)
  | d + 1, given, tens, sum, st, st', hl, ht, hs, hm, hc, hf, h => by
    rw [srch] at h
    split at h
    · cases h
    · have hi : cs.length - (d + 1) = given.length := by omega
      rw [hi] at h
      refine lpS_inv (P := Fnd cs gs most share cs.length) _ _ _ ?_ (show Fnd cs gs most share cs.length ⟨st.left - 1, st.count, st.best, st.least⟩ from hf) h
      intro g hg ho s s' hfs hs'
      rw [okG] at ho
      simp at ho
      refine srch_found d (given ++ [g]) _ _ s s' (by simp; omega) ?_ ?_ ho.2 (Ch_add cs gs share 0 given g hc (by simpa using hg) (by simpa using ho.1)) hfs hs'
      · rw [tsF_add, ht]; simp
      · rw [sumL_app, ← hs]; simp [sumL]
/-- how many steps a search takes at most -/
def nd : Nat → Nat
  | 0 => 1
  | d + 1 => 1 + 4 * nd d
theorem lpS_some {ok : Int → Bool} {f : Int → SSt → Option SSt} {m : Nat} (hf : ∀ g st, m ≤ st.left → ∃ st', f g st = some st' ∧ st.left ≤ st'.left + m) : ∀ l st, l.length * m ≤ st.left → ∃ st', lpS ok f l st = some st' ∧ st.left ≤ st'.left + l.length * m
  | [], st, _ => ⟨st, rfl, by omega⟩
  | g :: gs, st, h => by
    have e : (g :: gs).length * m = gs.length * m + m := by rw [List.length_cons, Nat.succ_mul]
    rw [e] at h ⊢
    rw [lpS]
    split
    · obtain ⟨s2, h2, h3⟩ := hf g st (by omega)
      rw [h2]
      obtain ⟨s3, h4, h5⟩ := lpS_some hf gs s2 (by omega)
      exact ⟨s3, h4, by omega⟩
    · obtain ⟨s3, h4, h5⟩ := lpS_some hf gs st (by omega)
      exact ⟨s3, h4, by omega⟩
theorem srch_some (hg : ∀ i, (gs.getD i []).length ≤ 4) : ∀ d given tens sum st, nd d ≤ st.left → ∃ st', srch cs gs most share d given tens sum st = some st' ∧ st.left ≤ st'.left + nd d
  | 0, given, tens, sum, st, h => by
    rw [srch, if_neg (by rw [nd] at h; omega)]
    refine ⟨_, rfl, ?_⟩
    unfold leafS
    split <;> simp [nd] <;> omega
  | d + 1, given, tens, sum, st, h => by
    rw [nd] at h
    rw [srch, if_neg (by omega)]
    have hl := hg (cs.length - (d + 1))
    have hm : (gs.getD (cs.length - (d + 1)) []).length * nd d ≤ 4 * nd d := Nat.mul_le_mul_right _ hl
    obtain ⟨s', h1, h2⟩ := lpS_some (ok := okG cs most share (cs.length - (d + 1)) sum) (fun g st h => srch_some hg d (given ++ [g]) (tens ++ [tnAt cs (cs.length - (d + 1)) g]) (sum + tnAt cs (cs.length - (d + 1)) g) st h) (gs.getD (cs.length - (d + 1)) []) ⟨st.left - 1, st.count, st.best, st.least⟩ (by simp only; omega)
    refine ⟨s', h1, ?_⟩
    simp only at h2
    rw [nd]; omega
end
end Go.Proofs.Ytemkggecempmgaa
