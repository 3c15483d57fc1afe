/- Set-ups of strings: what the law asks (plain). -/
import Derived.Test.YtemkggecempmgaaSetTot
import Derived.Test.YtemkggecempmgaaSetDraw2
set_option linter.unusedVariables false
namespace Go.Proofs.Ytemkggecempmgaa
open Go.RowKit

def setG (ds : List CordD) (zs : List Int) : List CordD := List.zipWith (fun x z => ⟨x.a0, x.a1, z, x.a3⟩) ds zs
theorem setG_len {ds : List CordD} {zs : List Int} (h : zs.length ≤ ds.length) : (setG ds zs).length = zs.length := by simp [setG]; omega
theorem setG_get {ds : List CordD} {zs : List Int} {i : Nat} {x : CordD} {z : Int} (hx : ds[i]? = some x) (hz : zs[i]? = some z) : (setG ds zs)[i]? = some ⟨x.a0, x.a1, z, x.a3⟩ := by
  simp [setG, List.getElem?_zipWith, hx, hz]
theorem setG_add : ∀ {ds : List CordD} {zs : List Int} {x : CordD} (z : Int), ds[zs.length]? = some x → setG ds (zs ++ [z]) = setG ds zs ++ [⟨x.a0, x.a1, z, x.a3⟩]
  | [], zs, x, z, h => by simp at h
  | d :: ds, [], x, z, h => by simp at h; subst h; simp [setG]
  | d :: ds, y :: zs, x, z, h => by
    have := setG_add (ds := ds) (zs := zs) z (by simpa using h)
    simp [setG] at this ⊢
    exact this
def MemG (gs : List (List Int)) (zs : List Int) : Prop := ∀ i z, zs[i]? = some z → z ∈ gs.getD i []
theorem MemG.add {gs : List (List Int)} {zs : List Int} {z : Int} (h : MemG gs zs) (hz : z ∈ gs.getD zs.length []) : MemG gs (zs ++ [z]) := by
  intro i y hy
  rcases Nat.lt_trichotomy i zs.length with g | g | g
  · rw [List.getElem?_append_left g] at hy; exact h i y hy
  · subst g; simp at hy; subst hy; exact hz
  · rw [List.getElem?_eq_none (by simp; omega)] at hy; cases hy
theorem tsF_get {ds : List CordD} : ∀ {zs : List Int} {i k : Nat} {z : Int}, zs[i]? = some z → (tsF ds k zs)[i]? = some (tnAt ds (k + i) z)
  | [], i, k, z, h => by simp at h
  | y :: zs, 0, k, z, h => by simp at h; subst h; simp [tsF]
  | y :: zs, i + 1, k, z, h => by
    have := tsF_get (ds := ds) (zs := zs) (i := i) (k := k + 1) (by simpa using h)
    simp [tsF]
    rw [this, show k + 1 + i = k + (i + 1) by omega]
theorem Ch_mk {ds : List CordD} {gs : List (List Int)} {share : Int} : ∀ {zs : List Int} {k : Nat}, (∀ i z, zs[i]? = some z → z ∈ gs.getD (k + i) [] ∧ hoB (ds.getD (k + i) c0D).a0 (ds.getD (k + i) c0D).a1 z (ds.getD (k + i) c0D).a3 share = true) → Ch ds gs share k zs
  | [], k, _ => trivial
  | z :: zs, k, h => ⟨(h 0 z rfl).1, (h 0 z rfl).2, Ch_mk fun i y hy => by
      have := h (i + 1) y (by simpa using hy)
      rw [show k + (i + 1) = k + 1 + i by omega] at this
      exact this⟩
theorem Ch_at {ds : List CordD} {gs : List (List Int)} {share : Int} : ∀ {zs : List Int} {k : Nat}, Ch ds gs share k zs → ∀ i z, zs[i]? = some z → z ∈ gs.getD (k + i) [] ∧ hoB (ds.getD (k + i) c0D).a0 (ds.getD (k + i) c0D).a1 z (ds.getD (k + i) c0D).a3 share = true
  | [], k, _, i, z, h => by simp at h
  | y :: zs, k, h, 0, z, hz => by simp at hz; subst hz; exact ⟨h.1, h.2.1⟩
  | y :: zs, k, h, i + 1, z, hz => by
    have := Ch_at h.2.2 i z (by simpa using hz)
    rw [show k + 1 + i = k + (i + 1) by omega] at this
    exact this
theorem br_mem {ds : List CordD} {share : Int} : ∀ {k : Nat} {x : Int}, x ∈ brTo ds share k ↔ ∃ i : Nat, i < k ∧ x = i ∧ hol (ds.getD i c0D) share = false
  | 0, x => by simp [brTo]
  | k + 1, x => by
    have ih := br_mem (ds := ds) (share := share) (k := k) (x := x)
    rw [brTo]
    split
    · rename_i h
      rw [ih]
      constructor
      · rintro ⟨i, h1, h2, h3⟩; exact ⟨i, by omega, h2, h3⟩
      · rintro ⟨i, h1, h2, h3⟩
        refine ⟨i, ?_, h2, h3⟩
        rcases Nat.lt_or_ge i k with g | g
        · exact g
        · obtain rfl : i = k := by omega
          rw [h] at h3; cases h3
    · rename_i h
      rw [List.mem_append, ih]
      constructor
      · rintro (⟨i, h1, h2, h3⟩ | h1)
        · exact ⟨i, by omega, h2, h3⟩
        · simp at h1; exact ⟨k, by omega, h1, by simpa using h⟩
      · rintro ⟨i, h1, h2, h3⟩
        rcases Nat.lt_or_ge i k with g | g
        · exact .inl ⟨i, g, h2, h3⟩
        · obtain rfl : i = k := by omega
          exact .inr (by simp [h2])
theorem br_nil {ds : List CordD} {share : Int} {k : Nat} : brTo ds share k = [] ↔ ∀ i, i < k → hol (ds.getD i c0D) share = true := by
  constructor
  · intro h i hi
    cases e : hol (ds.getD i c0D) share
    · have : (i : Int) ∈ brTo ds share k := br_mem.2 ⟨i, hi, rfl, e⟩
      rw [h] at this; simp at this
    · rfl
  · intro h
    cases e : brTo ds share k with
    | nil => rfl
    | cons a l =>
      have : a ∈ brTo ds share k := by rw [e]; simp
      obtain ⟨i, h1, _, h3⟩ := br_mem.1 this
      rw [h i h1] at h3; cases h3
section
variable {ds : List CordD} {gs : List (List Int)} {zs : List Int} {share most : Int} {n : Nat}
theorem set_at (hn : ds.length = n) (hz : zs.length = n) {i : Nat} (hi : i < n) : ∃ z, zs[i]? = some z ∧ (setG ds zs).getD i c0D = ⟨(ds.getD i c0D).a0, (ds.getD i c0D).a1, z, (ds.getD i c0D).a3⟩ := by
  have hx : ds[i]? = some ds[i] := List.getElem?_eq_getElem (by omega)
  have hzz : zs[i]? = some zs[i] := List.getElem?_eq_getElem (by omega)
  exact ⟨zs[i], hzz, by rw [getD_ok (setG_get hx hzz), getD_ok hx]⟩
theorem sumL_take : ∀ {l : List Int} {k : Nat}, k ≤ l.length → sumL (l.take (k + 1)) = sumL (l.take k) + l.getD k 0
  | [], k, _ => by simp [sumL]
  | a :: l, 0, _ => by simp [sumL]
  | a :: l, k + 1, h => by
    have := sumL_take (l := l) (k := k) (by simpa using h)
    simp only [List.take_succ_cons, sumL, this]
    simp
    omega
theorem set_tot (hn : ds.length = n) (hz : zs.length = n) : totTo (setG ds zs) n = sumL (tsF ds 0 zs) := by
  have key : ∀ k, k ≤ n → totTo (setG ds zs) k = sumL ((tsF ds 0 zs).take k) := by
    intro k
    induction k with
    | zero => intro _; simp [totTo, sumL]
    | succ k ih =>
      intro hk
      obtain ⟨z, h1, h2⟩ := set_at hn hz (show k < n by omega)
      have ht := tsF_get (ds := ds) (k := 0) h1
      rw [totTo, ih (by omega), h2, sumL_take (by rw [tsF_len]; omega), getD_ok ht, Nat.zero_add]
      rfl
  rw [key n (Nat.le_refl _), List.take_of_length_le (by rw [tsF_len]; omega)]
theorem set_hol (hn : ds.length = n) (hz : zs.length = n) (hb : brTo (setG ds zs) share n = []) (hm : MemG gs zs) : Ch ds gs share 0 zs := by
  refine Ch_mk fun i z hi => ?_
  have hl := (List.getElem?_eq_some_iff.1 hi).1
  obtain ⟨z', h1, h2⟩ := set_at hn hz (show i < n by omega)
  have := br_nil.1 hb i (by omega)
  rw [h2] at this
  rw [h1] at hi; injection hi with hi; subst hi
  rw [Nat.zero_add]
  exact ⟨hm i _ h1, this⟩
theorem set_br (hn : ds.length = n) (hz : zs.length = n) (hc : Ch ds gs share 0 zs) : brTo (setG ds zs) share n = [] ∧ MemG gs zs := by
  refine ⟨br_nil.2 fun i hi => ?_, fun i z hi => by have := (Ch_at hc i z hi).1; rwa [Nat.zero_add] at this⟩
  obtain ⟨z, h1, h2⟩ := set_at hn hz hi
  have := (Ch_at hc i z h1).2
  rw [Nat.zero_add] at this
  rw [h2]; exact this
theorem set_ok (hn : ds.length = n) (n4 : n ≤ 4) (hz : zs.length = n) (hd : cordsB ds = true) (hg : ∀ r ∈ gs, r.length ≤ 6 ∧ ∀ z ∈ r, 1 ≤ z ∧ z ≤ 10000) (hm : MemG gs zs) : cordsB (setG ds zs) = true := by
  have hl := setG_len (ds := ds) (zs := zs) (by omega)
  have key : ∀ k, k ≤ n → cordsTo (setG ds zs) k = true := by
    intro k
    induction k with
    | zero => intro _; rfl
    | succ k ih =>
      intro hk
      obtain ⟨z, h1, h2⟩ := set_at hn hz (show k < n by omega)
      rw [cordsTo, ih (by omega), Bool.true_and, h2]
      have c := cordsTo_at (ds := ds) (n := ds.length) (k := k) (by have := hd; rw [cordsB, Bool.and_eq_true] at this; exact this.1) (by omega)
      have q := cordB_t c
      have hzm := hm k z h1
      have zb : 1 ≤ z ∧ z ≤ 10000 := by
        rcases Nat.lt_or_ge k gs.length with g | g
        · have hr : gs.getD k [] = gs[k] := getD_ok (List.getElem?_eq_getElem g)
          rw [hr] at hzm
          exact (hg gs[k] (List.getElem_mem _)).2 z hzm
        · have hr : gs.getD k [] = [] := by simp [List.getD, List.getElem?_eq_none g]
          rw [hr] at hzm; simp at hzm
      rw [cordP, cordB, q.1, q.2.1, inB_mk zb, q.2.2.2]; rfl
  rw [cordsB, hl, hz, key n (Nat.le_refl _)]; simpa using n4
end
/-- what the program's search tells of strings and gauges that are drawn -/
structure LawS (ds : List CordD) (gs : List (List Int)) (most share : Int) (n : Nat) (own : List Int) (spread a many : Int) : Prop where
  num : SetUp_L ds gs most share 20000 = (own, spread, a) ∧ CountSetUps_L ds gs most share 20000 = (many, 0)
  ways : (a = 3 ∧ many = 0 ∧ own = [] ∧ 0 < n) ∨ (a = 0 ∧ 1 ≤ many ∧ own.length = n ∧ MemG gs own ∧ brTo (setG ds own) share n = [] ∧ totTo (setG ds own) n ≤ most ∧ spread = sprTo (tsF ds 0 own) n)
  best : ∀ zs : List Int, zs.length = n → MemG gs zs → brTo (setG ds zs) share n = [] → totTo (setG ds zs) n ≤ most → a = 0 ∧ 1 ≤ many ∧ spread ≤ sprTo (tsF ds 0 zs) n
theorem law_s {ds : List CordD} {gs : List (List Int)} {most share : Int} {n : Nat} (hn : ds.length = n) (n4 : n ≤ 4) (hgn : gs.length = n) (hd : DrS ds) (hg : GrS gs) (m0 : 0 ≤ most) (m1 : most ≤ 2000000) (s0 : 0 ≤ share) (s1 : share ≤ 1000) :
    cordsB ds = true ∧ (∀ r ∈ gs, r.length ≤ 6 ∧ ∀ z ∈ r, 1 ≤ z ∧ z ≤ 10000) ∧ ∃ own spread a many, LawS ds gs most share n own spread a many := by
  have hv : cordsB ds = true := by
    have key : ∀ k, k ≤ ds.length → cordsTo ds k = true := by
      intro k
      induction k with
      | zero => intro _; rfl
      | succ k ih =>
        intro hk
        rw [cordsTo, ih (by omega), Bool.true_and, getD_ok (List.getElem?_eq_getElem (show k < ds.length by omega))]
        have q := hd ds[k] (List.getElem_mem _)
        obtain ⟨q0, q1, q2, q3⟩ := q
        rw [cordP, cordB, inB_mk (by omega), inB_mk (by omega), inB_mk (by omega), inB_mk (by omega)]; rfl
    rw [cordsB, key _ (Nat.le_refl _)]; simpa using (by omega : ds.length ≤ 4)
  have hgr : ∀ r ∈ gs, r.length ≤ 6 ∧ ∀ z ∈ r, 1 ≤ z ∧ z ≤ 10000 := fun r hr => ⟨by have := (hg r hr).1; omega, fun z hz => by have := (hg r hr).2.2 z hz; omega⟩
  have hgt : gTo gs gs.length = true := by
    have key : ∀ k, k ≤ gs.length → gTo gs k = true := by
      intro k
      induction k with
      | zero => intro _; rfl
      | succ k ih =>
        intro hk
        rw [gTo, ih (by omega), Bool.true_and, getD_ok (List.getElem?_eq_getElem (show k < gs.length by omega))]
        exact (hg gs[k] (List.getElem_mem _)).2.1
    exact key _ (Nat.le_refl _)
  have hc : codeS ds gs most share 20000 = 0 := by
    rw [codeS, hv, if_neg (by decide), inB_mk ⟨s0, s1⟩, inB_mk ⟨m0, m1⟩, inB_mk (by omega), if_neg (by decide), hgn, hn, ← hgn, hgt]
    simp
  have hlen : ∀ i, (gs.getD i []).length ≤ 4 := by
    intro i
    rcases Nat.lt_or_ge i gs.length with g | g
    · rw [getD_ok (List.getElem?_eq_getElem g)]; exact (hg gs[i] (List.getElem_mem _)).1
    · rw [show gs.getD i [] = [] by simp [List.getD, List.getElem?_eq_none g]]; simp
  have hf : findS ds gs most share 20000 = srch ds gs most share n [] [] 0 ⟨20000, 0, [], 0⟩ := by rw [findS, hn]; rfl
  obtain ⟨s, hs, _⟩ := srch_some ds gs most share hlen n [] [] 0 ⟨20000, 0, [], 0⟩ (by
    have : ∀ k, k ≤ 4 → nd k ≤ 20000 := by
      intro k hk
      match k, hk with
      | 0, _ => decide
      | 1, _ => decide
      | 2, _ => decide
      | 3, _ => decide
      | 4, _ => decide
    exact this n n4)
  have hT : TnP ds gs := by
    intro i z hz
    rw [tnAt]
    rcases Nat.lt_or_ge i ds.length with g | g
    · have q := hd ds[i] (List.getElem_mem _)
      obtain ⟨q0, q1, q2, q3⟩ := q
      rw [getD_ok (List.getElem?_eq_getElem g)]
      have zb : 1 ≤ z ∧ z ≤ 10000 := by
        rcases Nat.lt_or_ge i gs.length with g' | g'
        · rw [getD_ok (List.getElem?_eq_getElem g')] at hz; exact (hgr gs[i] (List.getElem_mem _)).2 z hz
        · rw [show gs.getD i [] = [] by simp [List.getD, List.getElem?_eq_none g']] at hz; simp at hz
      exact (tenL_bd (by omega) (by omega) (by omega) (by omega) zb.1 zb.2).1
    · rw [show gs.getD i [] = [] by simp [List.getD, List.getElem?_eq_none (show gs.length ≤ i by omega)]] at hz; simp at hz
  have hfd := srch_found ds gs most share n [] [] 0 _ _ (by simp [hn]) (by simp [tsF]) (by simp [sumL]) m0 (by simp [Ch]) (fun h => by simp at h) hs
  have hcp := fun zs hz hch hsm => srch_comp ds gs most share hT n [] [] 0 ⟨20000, 0, [], 0⟩ s zs (by simp [hn]) hz hch hsm hs
  have sp : ∀ zs : List Int, zs.length = n → spr (tsF ds 0 zs) = sprTo (tsF ds 0 zs) n := fun zs hz => by rw [spr, tsF_len, hz]
  refine ⟨hv, hgr, if s.count = 0 then [] else s.best, if s.count = 0 then 0 else s.least, if s.count = 0 then 3 else 0, s.count, ⟨⟨?_, ?_⟩, ?_, ?_⟩⟩
  · rw [SetUp_L, if_pos hc, hf, hs]
    simp only
    split <;> rfl
  · rw [CountSetUps_L, if_pos hc, hf, hs]
  · by_cases h0 : s.count = 0
    · left
      refine ⟨by simp [h0], by simp [h0], by simp [h0], ?_⟩
      rcases Nat.eq_zero_or_pos n with hz | hz
      · subst hz
        have := hcp [] rfl trivial (by simpa [tsF, sumL] using m0)
        omega
      · exact hz
    · right
      obtain ⟨f1, f2, f3, f4⟩ := hfd (by omega)
      rw [hn] at f1
      have q := set_br hn f1 f2
      rw [if_neg h0, if_neg h0, if_neg h0]
      refine ⟨rfl, by omega, f1, q.2, q.1, by rw [set_tot hn f1]; exact f3, by rw [f4, sp _ f1]⟩
  · intro zs hz hm hb ht
    have := hcp zs hz (set_hol hn hz hb hm) (by rw [Int.zero_add]; rw [set_tot hn hz] at ht; exact ht)
    have h0 : s.count ≠ 0 := by omega
    rw [if_neg h0, if_neg h0]
    refine ⟨rfl, by omega, ?_⟩
    have := this.2
    simp only [List.nil_append, List.length_nil] at this
    rw [sp _ hz] at this
    exact this
end Go.Proofs.Ytemkggecempmgaa
