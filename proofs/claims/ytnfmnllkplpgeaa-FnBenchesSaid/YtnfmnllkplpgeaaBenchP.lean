/- The law FnBenches: plain. -/
import Derived.Test.YtnfmnllkplpgeaaBook
import Derived.Test.YtnfmnllkplpgeaaDrop
set_option linter.unusedVariables false
set_option linter.unusedSimpArgs false
namespace Go.Proofs.Ytnfmnllkplpgeaa
open Go.RowKit

theorem getZ_setN {r : List Int} {i j : Nat} {a : Int} (h : i ≠ j) : (r.set i a).getD j 0 = r.getD j 0 := by simp [List.getElem?_set_ne h]
theorem getZ_setS {r : List Int} {i : Nat} {a : Int} (h : i < r.length) : (r.set i a).getD i 0 = a := by simp [h]
theorem getR_setN {rs : List (List Int)} {i j : Nat} {a : List Int} (h : i ≠ j) : (rs.set i a).getD j [] = rs.getD j [] := by simp [List.getElem?_set_ne h]
theorem getR_setS {rs : List (List Int)} {i : Nat} {a : List Int} (h : i < rs.length) : (rs.set i a).getD i [] = a := by simp [h]
theorem getR_mem {rs : List (List Int)} {i : Nat} (h : i < rs.length) : rs.getD i [] ∈ rs := by simp [h]
theorem getR_at {rs : List (List Int)} {i : Nat} (h : i < rs.length) : rs[i]? = some (rs.getD i []) := by simp [h]
theorem getZ_mem {r : List Int} {i : Nat} (h : i < r.length) : r.getD i 0 ∈ r := by simp [h]
theorem getZ_elem {r : List Int} {i : Nat} (h : i < r.length) : r.getD i 0 = r[i] := by simp [h]
theorem fillTo_get (r : List Int) (d : Nat) (wk : Int) : ∀ (m j : Nat), d + m ≤ r.length → (fillTo r d wk m).getD j 0 = if d ≤ j ∧ j < d + m then wk else r.getD j 0
  | 0, j, _ => by rw [fillTo, if_neg (by omega)]
  | m + 1, j, h => by
    have ih := fillTo_get r d wk m j (by omega)
    rw [fillTo]
    by_cases e : d + m = j
    · subst e
      rw [if_pos (by omega), getZ_setS (by rw [fillTo_len]; omega)]
    · rw [getZ_setN e, ih]
      by_cases h1 : d ≤ j ∧ j < d + m
      · rw [if_pos h1, if_pos (by omega)]
      · rw [if_neg h1, if_neg (by omega)]
theorem load_fill {r : List Int} {d m : Nat} {wk : Int} (h : d + m ≤ r.length) (hw : wk ≠ 0) (hz : ∀ j, d ≤ j → j < d + m → r.getD j 0 = 0) : ∀ k, loadTo (fillTo r d wk m) k = loadTo r k + ((min k (d + m) - min k d : Nat) : Int)
  | 0 => by simp [loadTo]
  | k + 1 => by
    have ih := load_fill h hw hz k
    rw [loadTo, loadTo, ih, fillTo_get _ _ _ _ _ h]
    by_cases c : d ≤ k ∧ k < d + m
    · rw [if_pos c, if_neg hw, if_pos (hz k c.1 c.2)]; omega
    · rw [if_neg c]; split <;> omega
theorem free_load (r : List Int) : ∀ k, ((freeTo r k).length : Int) + loadTo r k = k
  | 0 => by simp [freeTo, loadTo]
  | k + 1 => by
    have ih := free_load r k
    rw [freeTo, loadTo]
    split
    · simp; omega
    · omega
theorem free_mem {r : List Int} {x : Int} : ∀ {k : Nat}, x ∈ freeTo r k → ∃ j : Nat, j < k ∧ x = j ∧ r.getD j 0 = 0
  | 0, h => by simp [freeTo] at h
  | k + 1, h => by
    rw [freeTo] at h
    split at h
    · rename_i h0
      rcases List.mem_append.1 h with h | h
      · obtain ⟨j, h1, h2, h3⟩ := free_mem h
        exact ⟨j, by omega, h2, h3⟩
      · simp at h
        exact ⟨k, by omega, h, h0⟩
    · obtain ⟨j, h1, h2, h3⟩ := free_mem h
      exact ⟨j, by omega, h2, h3⟩
theorem rowTo_of {r : List Int} : ∀ {n : Nat}, (∀ j, j < n → inB (r.getD j 0) 0 8 = true) → rowTo r n = true
  | 0, _ => rfl
  | n + 1, h => by rw [rowTo, rowTo_of fun j hj => h j (by omega), h n (by omega)]; rfl
theorem planTo_of {rs : List (List Int)} : ∀ {n : Nat}, (∀ j, j < n → rowB (rs.getD j []) = true) → planTo rs n = true
  | 0, _ => rfl
  | n + 1, h => by rw [planTo, planTo_of fun j hj => h j (by omega), h n (by omega)]; rfl
theorem planB_of {rs : List (List Int)} (h1 : 1 ≤ rs.length) (h2 : rs.length ≤ 6) (h : ∀ r ∈ rs, r.length = 40 ∧ ∀ z ∈ r, 0 ≤ z ∧ z ≤ 8) : planB rs = true := by
  unfold planB
  rw [planTo_of, inB_mk ⟨by omega, by omega⟩]
  · rfl
  · intro j hj
    have hr := h _ (getR_mem hj)
    unfold rowB
    rw [hr.1, rowTo_of]
    · rfl
    · intro k hk
      exact inB_mk (hr.2 _ (getZ_mem (by omega)))
theorem pStep_ge (b : Nat) (wk : Int) (r : List Int) (ps : List (List Int)) (k : Nat) : ps.length ≤ (pStep b wk r ps k).length := by
  unfold pStep
  split
  · split
    · rw [bump_len]; exact Nat.le_refl _
    · simp
  · exact Nat.le_refl _
theorem pRow_ge (b : Nat) (wk : Int) (r : List Int) (ps : List (List Int)) : ∀ k, ps.length ≤ (pRow b wk r ps k).length
  | 0 => Nat.le_refl _
  | k + 1 => Nat.le_trans (pRow_ge b wk r ps k) (by rw [pRow]; exact pStep_ge _ _ _ _ _)
/-- every day of the work lies in a part -/
def Cov (wk : Int) (rs : List (List Int)) (b k : Nat) (ps : List (List Int)) : Prop :=
  ∀ b' j, (b' < b ∧ j < 40 ∨ b' = b ∧ j < k) → (rs.getD b' []).getD j 0 = wk → ∃ y z : Nat, [(b' : Int), (y : Int), (z : Int)] ∈ ps ∧ y ≤ j ∧ j < y + z
theorem Cov.step {wk : Int} {rs : List (List Int)} {b k : Nat} {ps : List (List Int)} (h : Cov wk rs b k ps) (hi : PInv b wk (rs.getD b []) k ps) (hk : k < 40) : Cov wk rs b (k + 1) (pStep b wk (rs.getD b []) ps k) := by
  intro b' j hc hv
  unfold pStep
  by_cases old : b' < b ∧ j < 40 ∨ b' = b ∧ j < k
  · obtain ⟨y, z, hm, h1, h2⟩ := h b' j old hv
    split
    · split
      · rename_i c
        obtain ⟨qs, y0, z0, rfl, _, _⟩ := hi.last c.1 c.2
        rw [bump_snoc, set_snoc]
        rcases List.mem_append.1 hm with hm | hm
        · exact ⟨y, z, List.mem_append.2 (.inl hm), h1, h2⟩
        · simp at hm
          obtain ⟨m1, m2, m3⟩ := hm
          obtain rfl : b' = b := by omega
          obtain rfl : y = y0 := by omega
          obtain rfl : z = z0 := by omega
          exact ⟨y, z + 1, List.mem_append.2 (.inr (by simp)), h1, by omega⟩
      · exact ⟨y, z, List.mem_append.2 (.inl hm), h1, h2⟩
    · exact ⟨y, z, hm, h1, h2⟩
  · obtain ⟨rfl, rfl⟩ : b' = b ∧ j = k := by omega
    rw [if_pos hv]
    split
    · rename_i c
      obtain ⟨qs, y0, z0, rfl, h1, h2⟩ := hi.last c.1 c.2
      rw [bump_snoc, set_snoc]
      exact ⟨y0, z0 + 1, List.mem_append.2 (.inr (by simp)), by omega, by omega⟩
    · exact ⟨j, 1, List.mem_append.2 (.inr (by simp)), by omega, by omega⟩
theorem Cov.row {wk : Int} {rs : List (List Int)} {b : Nat} (h : Cov wk rs b 0 (pAll wk rs b)) : ∀ k, k ≤ 40 → Cov wk rs b k (pRow b wk (rs.getD b []) (pAll wk rs b) k)
  | 0, _ => h
  | k + 1, hk => (Cov.row h k (by omega)).step (pInv wk rs b _ (by omega)) (by omega)
theorem cov_all (wk : Int) (rs : List (List Int)) : ∀ b, Cov wk rs b 0 (pAll wk rs b)
  | 0 => fun b' j hc _ => absurd hc (by omega)
  | b + 1 => fun b' j hc hv => (cov_all wk rs b).row 40 (Nat.le_refl _) b' j (by omega) hv
theorem pRow_none {b : Nat} {wk : Int} {r : List Int} : ∀ {k : Nat}, (∀ j, j < k → r.getD j 0 ≠ wk) → pRow b wk r [] k = []
  | 0, _ => rfl
  | k + 1, h => by rw [pRow, pRow_none fun j hj => h j (by omega), pStep, if_neg (h k (by omega))]
theorem pAll_none {wk : Int} {rs : List (List Int)} : ∀ {b : Nat}, (∀ b', b' < b → ∀ j, j < 40 → (rs.getD b' []).getD j 0 ≠ wk) → pAll wk rs b = []
  | 0, _ => rfl
  | b + 1, h => by rw [pAll, pAll_none fun b' hb => h b' (by omega), pRow_none (h b (by omega))]
theorem drop_get {rs ps : List (List Int)} {n : Nat} (hn : rs.length = n) (h40 : ∀ r ∈ rs, r.length = 40) (hp : ∀ p ∈ ps, PartOk n p) : ∀ i, i ≤ ps.length → ∀ b j, b < n →
    ((((dropTo rs ps i).getD b []).getD j 0 = (rs.getD b []).getD j 0 ∨ ((dropTo rs ps i).getD b []).getD j 0 = 0) ∧ ∀ (q y z : Nat), q < i → ps[q]? = some [(b : Int), (y : Int), (z : Int)] → y ≤ j → j < y + z → ((dropTo rs ps i).getD b []).getD j 0 = 0)
  | 0, _, b, j, _ => ⟨.inl rfl, fun q y z hq => absurd hq (by omega)⟩
  | i + 1, hi, b, j, hb => by
    obtain ⟨ih1, ih2⟩ := drop_get hn h40 hp i (by omega) b j hb
    obtain ⟨x, y, z, e, hx, hz, hyz⟩ := hp _ (List.getElem_mem (show i < ps.length by omega))
    have hpi : ps[i]? = some [(x : Int), (y : Int), (z : Int)] := by rw [List.getElem?_eq_getElem (by omega), e]
    have hl : (dropTo rs ps i).length = n := by rw [dropTo_len, hn]
    have hr := getR_at (rs := dropTo rs ps i) (i := x) (by omega)
    have r40 := dropTo_40 hn h40 hp i (by omega) _ (getR_mem (rs := dropTo rs ps i) (i := x) (by omega))
    rw [dropTo_next hpi hr]
    by_cases hbx : x = b
    · subst hbx
      rw [getR_setS (by omega), fillTo_get _ _ _ _ _ (by omega)]
      by_cases hc : y ≤ j ∧ j < y + z
      · rw [if_pos hc]
        exact ⟨.inr rfl, fun _ _ _ _ _ _ _ => rfl⟩
      · rw [if_neg hc]
        refine ⟨ih1, fun q y' z' hq hps h1 h2 => ?_⟩
        by_cases hqi : q = i
        · subst hqi
          rw [hpi] at hps
          simp at hps
          omega
        · exact ih2 q y' z' (by omega) hps h1 h2
    · rw [getR_setN hbx]
      refine ⟨ih1, fun q y' z' hq hps h1 h2 => ?_⟩
      by_cases hqi : q = i
      · subst hqi
        rw [hpi] at hps
        simp at hps
        omega
      · exact ih2 q y' z' (by omega) hps h1 h2
/-- what a booking that is taken gives -/
structure BookS (rs next : List (List Int)) (bn fr dy wk : Int) : Prop where
  plan : planB rs = true
  plan2 : planB next = true
  len : next.length = rs.length
  b0 : 0 ≤ bn
  b1 : bn < rs.length
  f0 : 0 ≤ fr
  d1 : 1 ≤ dy
  fd : fr + dy ≤ 40
  w1 : 1 ≤ wk
  w8 : wk ≤ 8
  load : loadTo (next.getD bn.toNat []) 40 = loadTo (rs.getD bn.toNat []) 40 + dy
  parts : (pAll wk next next.length).length ≠ 0
  used : ∀ j : Nat, fr ≤ j → (j : Int) < fr + dy → (next.getD bn.toNat []).getD j 0 ≠ 0
theorem zeroTo_at {r : List Int} {d : Nat} : ∀ {m : Nat}, zeroTo r d m = true → ∀ j, j < m → r.getD (d + j) 0 = 0
  | 0, _, j, h => absurd h (by omega)
  | m + 1, h, j, hj => by
    rw [zeroTo, Bool.and_eq_true] at h
    by_cases e : j = m
    · subst e; simpa using h.2
    · exact zeroTo_at h.1 j (by omega)
theorem book_ok {rs : List (List Int)} {bn fr dy wk : Int} (h : (BookDays_L rs bn fr dy wk).2 = 0) : BookS rs (BookDays_L rs bn fr dy wk).1 bn fr dy wk := by
  unfold BookDays_L at h ⊢
  split at h
  · rename_i hp
    rw [if_pos hp]
    split at h
    · rename_i hc
      rw [if_pos hc]
      split at h
      · rename_i hf
        rw [if_pos hf]
        have P := planB_t hp
        simp only [Bool.and_eq_true] at hc
        have a1 := atB_t hc.1
        have a2 := inB_t hc.2.1
        have a3 := inB_t hc.2.2.1
        have a4 := inB_t hc.2.2.2.1
        have a5 : fr + dy ≤ 40 := of_decide_eq_true hc.2.2.2.2
        obtain ⟨x, rfl⟩ : ∃ x : Nat, bn = x := ⟨bn.toNat, by omega⟩
        obtain ⟨f, rfl⟩ : ∃ x : Nat, fr = x := ⟨fr.toNat, by omega⟩
        obtain ⟨d, rfl⟩ : ∃ x : Nat, dy = x := ⟨dy.toNat, by omega⟩
        simp only [Int.toNat_natCast] at hf ⊢
        have hx : x < rs.length := by omega
        have hr := P.2.2 _ (getR_mem hx)
        unfold freeB at hf
        rw [Bool.and_eq_true] at hf
        have hz := zeroTo_at hf.2
        have hfd : f + d ≤ (rs.getD x []).length := by omega
        have hget := fun j => fillTo_get (rs.getD x []) f wk d j hfd
        have hrow : (rs.set x (fillTo (rs.getD x []) f wk d)).getD x [] = fillTo (rs.getD x []) f wk d := getR_setS hx
        have p2 : planB (rs.set x (fillTo (rs.getD x []) f wk d)) = true := by
          refine planB_of (by simp; omega) (by simp; omega) fun r hr' => ?_
          rcases List.mem_or_eq_of_mem_set hr' with a | a
          · exact P.2.2 r a
          · subst a
            refine ⟨by rw [fillTo_len]; exact hr.1, fun z hz' => ?_⟩
            obtain ⟨j, hj, e⟩ := List.mem_iff_getElem.1 hz'
            have e2 : (fillTo (rs.getD x []) f wk d).getD j 0 = z := by rw [getZ_elem hj]; exact e
            rw [hget j] at e2
            rw [fillTo_len] at hj
            split at e2
            · omega
            · rw [← e2]; exact hr.2 _ (getZ_mem hj)
        refine ⟨hp, p2, by simp, by omega, by omega, by omega, by omega, by omega, by omega, by omega, ?_, ?_, ?_⟩
        · simp only [Int.toNat_natCast]
          rw [hrow, load_fill hfd (by omega) (fun j h1 h2 => by have := hz (j - f) (by omega); rwa [show f + (j - f) = j by omega] at this) 40]
          omega
        · intro e
          have e : pAll wk (rs.set x (fillTo (rs.getD x []) f wk d)) (rs.set x (fillTo (rs.getD x []) f wk d)).length = [] := List.length_eq_zero_iff.1 e
          obtain ⟨y, z, hm, _⟩ := cov_all wk (rs.set x (fillTo (rs.getD x []) f wk d)) (rs.set x (fillTo (rs.getD x []) f wk d)).length x f (.inl ⟨by simp; omega, by omega⟩) (by rw [hrow, hget f, if_pos (by omega)])
          rw [e] at hm
          simp at hm
        · intro j h1 h2
          simp only [Int.toNat_natCast]
          rw [hrow, hget j, if_pos (by omega)]
          omega
      · simp at h
    · simp at h
  · simp at h
theorem book_no {rs : List (List Int)} {bn fr dy wk : Int} (h : ¬ (BookDays_L rs bn fr dy wk).2 = 0) : (BookDays_L rs bn fr dy wk).1 = [] := by
  unfold BookDays_L at h ⊢
  split
  · rename_i hp
    rw [if_pos hp] at h
    split
    · rename_i hc
      rw [if_pos hc] at h
      split
      · rename_i hf
        rw [if_pos hf] at h
        exact absurd rfl h
      · rfl
    · rfl
  · rfl
theorem drop_no {rs : List (List Int)} {wk : Int} (h : ¬ (DropWork_L rs wk).2 = 0) : (DropWork_L rs wk).1 = [] := by
  unfold DropWork_L at h ⊢
  split
  · rename_i hp
    rw [if_pos hp] at h
    exact absurd rfl h
  · rfl
theorem drop_ok {rs : List (List Int)} {wk : Int} (h : (DropWork_L rs wk).2 = 0) : planB (DropWork_L rs wk).1 = true ∧ (PartsOf_L (DropWork_L rs wk).1 wk).2 = 3 := by
  unfold DropWork_L at h ⊢
  split at h
  · rename_i hq
    rw [if_pos hq]
    obtain ⟨hp, hw, hne, e⟩ := PartsOf_ok hq
    rw [e]
    simp only
    have P := planB_t hp
    have h40 : ∀ r ∈ rs, r.length = 40 := fun r hr => (P.2.2 r hr).1
    have hpo := pAll_ok wk rs rs.length
    have hlen := dropTo_len rs (pAll wk rs rs.length) (pAll wk rs rs.length).length
    have G := fun b j (hb : b < rs.length) => drop_get rfl h40 hpo (pAll wk rs rs.length).length (Nat.le_refl _) b j hb
    have hr40 := dropTo_40 rfl h40 hpo (pAll wk rs rs.length).length (Nat.le_refl _)
    generalize dropTo rs (pAll wk rs rs.length) (pAll wk rs rs.length).length = rest at hlen G hr40
    have w := inB_t hw
    have p2 : planB rest = true := by
      refine planB_of (by omega) (by omega) fun r hr => ⟨hr40 r hr, fun z hz => ?_⟩
      obtain ⟨b, hb, e1⟩ := List.mem_iff_getElem.1 hr
      obtain ⟨j, hj, e2⟩ := List.mem_iff_getElem.1 hz
      have g1 : (rest.getD b []).getD j 0 = z := by
        subst e1 e2
        simp [List.getElem?_eq_getElem hb, List.getElem?_eq_getElem hj]
      have g2 := (G b j (by omega)).1
      rw [g1] at g2
      have r0 := P.2.2 _ (getR_mem (rs := rs) (i := b) (by omega))
      have j40 : j < 40 := by have := hr40 r hr; omega
      have := r0.2 _ (getZ_mem (r := rs.getD b []) (i := j) (by omega))
      omega
    refine ⟨p2, ?_⟩
    have e3 : pAll wk rest rest.length = [] := pAll_none fun b hb j hj hv => by
      have hb' : b < rs.length := by omega
      obtain ⟨g1, g2⟩ := G b j hb'
      rw [hv] at g1 g2
      have hv2 : (rs.getD b []).getD j 0 = wk := by omega
      obtain ⟨y, z, hm, h1, h2⟩ := cov_all wk rs rs.length b j (.inl ⟨hb', hj⟩) hv2
      obtain ⟨q, hq, e4⟩ := List.mem_iff_getElem.1 hm
      have := g2 q y z hq (by rw [List.getElem?_eq_getElem hq, e4]) h1 h2
      omega
    unfold PartsOf_L
    rw [if_pos p2, if_pos hw, e3]
    rfl
  · rename_i hq
    exact absurd h hq
theorem firstN_some {p : Int → Bool} : ∀ {m k : Nat} {x : Int}, firstN p k m = some x → (k : Int) ≤ x ∧ x < (k : Int) + m ∧ p x = true
  | 0, k, x, h => by simp [firstN] at h
  | m + 1, k, x, h => by
    rw [firstN] at h
    split at h
    · rename_i hp
      injection h with h
      subst h
      exact ⟨by omega, by omega, hp⟩
    · have := firstN_some h
      refine ⟨by omega, by omega, this.2.2⟩
theorem firstN_none {p : Int → Bool} : ∀ {m k : Nat}, firstN p k m = none → ∀ j : Nat, k ≤ j → j < k + m → p j = false
  | 0, k, h, j, h1, h2 => by omega
  | m + 1, k, h, j, h1, h2 => by
    rw [firstN] at h
    split at h
    · cases h
    · rename_i hp
      by_cases e : j = k
      · subst e; simpa using hp
      · exact firstN_none h j (by omega) (by omega)
theorem ffOut_is {rs : List (List Int)} {m : Nat} : ∀ f d, (ffOut rs m d f = (0, 0, 3)) ∨ ∃ (d' : Nat) (y : Int), d ≤ d' ∧ d' < d + f ∧ ffOut rs m d f = ((d' : Int), y, 0) ∧ firstN (ffP rs d' m) 0 rs.length = some y ∧ ∀ e, d ≤ e → e < d' → firstN (ffP rs e m) 0 rs.length = none
  | 0, d => .inl rfl
  | f + 1, d => by
    rw [ffOut]
    cases h : firstN (ffP rs d m) 0 rs.length with
    | some b => exact .inr ⟨d, b, by omega, by omega, rfl, h, fun e h1 h2 => by omega⟩
    | none =>
      rcases ffOut_is (rs := rs) (m := m) f (d + 1) with h1 | ⟨d', y, h1, h2, h3, h4, h5⟩
      · exact .inl h1
      · refine .inr ⟨d', y, by omega, by omega, h3, h4, fun e e1 e2 => ?_⟩
        by_cases q : e = d
        · subst q; exact h
        · exact h5 e (by omega) e2
/-- what a free time that is found gives -/
structure FreeS (rs : List (List Int)) (dy fr : Int) (day row : Nat) : Prop where
  plan : planB rs = true
  d1 : 1 ≤ dy
  d2 : dy ≤ 40
  f0 : 0 ≤ fr
  f1 : fr ≤ day
  d40 : day < 40
  r1 : row < rs.length
  free : freeB (rs.getD row []) day dy.toNat = true
  none_ : ∀ e : Nat, fr ≤ e → e < day → ∀ b, b < rs.length → freeB (rs.getD b []) e dy.toNat = false
theorem first_is (rs : List (List Int)) (dy fr : Int) : (¬ (FirstFree_L rs dy fr).2.2 = 0 ∧ (FirstFree_L rs dy fr).1 = 0 ∧ (FirstFree_L rs dy fr).2.1 = 0) ∨ ∃ day row : Nat, FirstFree_L rs dy fr = ((day : Int), (row : Int), 0) ∧ FreeS rs dy fr day row := by
  unfold FirstFree_L
  split
  · rename_i hp
    split
    · rename_i hc
      rw [Bool.and_eq_true] at hc
      have a1 := inB_t hc.1
      have a2 := inB_t hc.2
      rcases ffOut_is (rs := rs) (m := dy.toNat) (40 - fr.toNat) fr.toNat with h | ⟨d', y, h1, h2, h3, h4, h5⟩
      · rw [h]; exact .inl ⟨by simp, rfl, rfl⟩
      · obtain ⟨y0, y1, y2⟩ := firstN_some h4
        obtain ⟨r, rfl⟩ : ∃ r : Nat, y = r := ⟨y.toNat, by omega⟩
        refine .inr ⟨d', r, h3, hp, by omega, by omega, by omega, by omega, by omega, by omega, ?_, fun e e1 e2 b hb => ?_⟩
        · simpa [ffP] using y2
        · have := firstN_none (h5 e (by omega) e2) b (by omega) (by omega)
          simpa [ffP] using this
    · exact .inl ⟨by simp, rfl, rfl⟩
  · exact .inl ⟨by simp, rfl, rfl⟩
end Go.Proofs.Ytnfmnllkplpgeaa
