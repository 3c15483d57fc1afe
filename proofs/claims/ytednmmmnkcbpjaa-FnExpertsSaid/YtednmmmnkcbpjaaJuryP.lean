/- The best jury: plain. -/
import Derived.Test.YtednmmmnkcbpjaaMajor
set_option linter.unusedVariables false
namespace Go.Proofs.Ytednmmmnkcbpjaa
open Go.RowKit

/-! all ways -/
def smTo (zs : List Int) (n : Nat) : Nat → Int
  | 0 => 0
  | k + 1 => smTo zs n k + wy zs n k
theorem smTo_step (zs : List Int) (i : Nat) : ∀ K, smTo zs (i + 1) (K + 1) = smTo zs i (K + 1) * (1000 - zs.getD i 0) + smTo zs i K * zs.getD i 0
  | 0 => by simp [smTo, wy]
  | K + 1 => by
    have ih := smTo_step zs i K
    rw [smTo, ih, wy]
    rw [show smTo zs i (K + 1 + 1) = smTo zs i (K + 1) + wy zs i (K + 1) from rfl, show smTo zs i (K + 1) = smTo zs i K + wy zs i K from rfl]
    simp only [Int.add_mul]
    omega
theorem smTo_all (zs : List Int) : ∀ i, smTo zs i (i + 1) = thou i
  | 0 => by simp [smTo, wy, thou]
  | i + 1 => by
    have ih := smTo_all zs i
    rw [smTo_step, show smTo zs i (i + 1 + 1) = smTo zs i (i + 1) + wy zs i (i + 1) from rfl, wy_far zs i (i + 1) (by omega), ih, thou, Int.add_zero, ← Int.mul_add]
    congr 1; omega
theorem mjTo_sm {zs : List Int} {n : Nat} (h : ∀ k, 0 ≤ wy zs n k) : ∀ k, 0 ≤ mjTo zs n k ∧ mjTo zs n k ≤ smTo zs n k
  | 0 => by simp [mjTo, smTo]
  | k + 1 => by
    have ih := mjTo_sm h k
    have a := h k
    rw [mjTo, smTo]; split <;> omega
def shOk (zs : List Int) : Prop := ∀ (k : Nat), k < zs.length → 0 ≤ zs.getD k 0 ∧ zs.getD k 0 ≤ 1000
theorem mj_thou {zs : List Int} (h : shOk zs) : 0 ≤ mj zs ∧ mj zs ≤ thou zs.length := by
  have := mjTo_sm (n := zs.length) (fun k => (wy_bd h zs.length k (Nat.le_refl _)).1) (zs.length + 1)
  rw [smTo_all] at this
  exact this

/-! sets of experts -/
def mems (p : Nat → Bool) (i : Nat) : List Nat := (List.range i).filter p
theorem mems_t {p : Nat → Bool} {i : Nat} (h : p i = true) : mems p (i + 1) = mems p i ++ [i] := by simp [mems, List.range_succ, h]
theorem mems_f {p : Nat → Bool} {i : Nat} (h : p i = false) : mems p (i + 1) = mems p i := by simp [mems, List.range_succ, h]
theorem mems_len (p : Nat → Bool) (i : Nat) : (mems p i).length ≤ i := by
  have := List.length_filter_le p (List.range i)
  simpa [mems] using this
theorem mems_lt {p : Nat → Bool} {i k : Nat} (h : k ∈ mems p i) : k < i := by simp [mems] at h; exact h.1
def sh (zs : List Int) (m : List Nat) : List Int := m.map fun k => zs.getD k 0
def nv (m : List Nat) : List Int := m.map fun (k : Nat) => (k : Int)
theorem sh_len (zs : List Int) (m : List Nat) : (sh zs m).length = m.length := by simp [sh]
theorem nv_len (m : List Nat) : (nv m).length = m.length := by simp [nv]
theorem getD_mem {zs : List Int} {k : Nat} (h : ∀ z ∈ zs, 0 ≤ z ∧ z ≤ 1000) : 0 ≤ zs.getD k 0 ∧ zs.getD k 0 ≤ 1000 := by
  rcases Nat.lt_or_ge k zs.length with hk | hk
  · have : zs.getD k 0 = zs[k] := by simp [List.getD, hk]
    rw [this]; exact h _ (List.getElem_mem hk)
  · have : zs.getD k 0 = 0 := by simp [List.getD, List.getElem?_eq_none hk]
    rw [this]; omega
theorem shOk_all {zs : List Int} (h : shOk zs) (k : Nat) : 0 ≤ zs.getD k 0 ∧ zs.getD k 0 ≤ 1000 := by
  rcases Nat.lt_or_ge k zs.length with hk | hk
  · exact h k hk
  · have : zs.getD k 0 = 0 := by simp [List.getD, List.getElem?_eq_none hk]
    rw [this]; omega
theorem sh_ok {zs : List Int} (h : shOk zs) (m : List Nat) : shOk (sh zs m) := by
  intro k hk
  refine getD_mem fun z hz => ?_
  simp [sh] at hz
  obtain ⟨a, _, rfl⟩ := hz
  have := shOk_all h a
  simpa [List.getD] using this
/-- the ways of a set, as if there were five -/
def sc (zs : List Int) (m : List Nat) : Int := mj (sh zs m) * thou (5 - m.length)
theorem thou_add (a b : Nat) : thou a * thou b = thou (a + b) := by
  induction b with
  | zero => simp [thou]
  | succ b ih => rw [thou, ← Int.mul_assoc, ih, ← Nat.add_assoc, thou]
theorem sc_bd {zs : List Int} (h : shOk zs) {m : List Nat} (hm : m.length ≤ 5) : 0 ≤ sc zs m ∧ sc zs m ≤ 1000000000000000 := by
  have a := mj_thou (sh_ok h m)
  rw [sh_len] at a
  have p := thou_pos (5 - m.length)
  refine ⟨Int.mul_nonneg a.1 (by omega), ?_⟩
  have b := Int.mul_le_mul_of_nonneg_right a.2 (show 0 ≤ thou (5 - m.length) by omega)
  rw [thou_add, show m.length + (5 - m.length) = 5 by omega] at b
  exact Int.le_trans b (thou_le (Nat.le_refl 5))
/-- the order of sets with as many ways -/
def lexB : List Nat → List Nat → Bool
  | a :: m, b :: o => if a = b then lexB m o else decide (a < b)
  | _, _ => false
def tlB (m o : List Nat) : Bool := if m.length = o.length then lexB m o else decide (m.length < o.length)
def bet (zs : List Int) (m o : List Nat) : Bool := if sc zs m = sc zs o then tlB m o else decide (sc zs o < sc zs m)
def bitI (s i : Nat) : Bool := s / 2 ^ i % 2 == 1
def bitS (n s k : Nat) : Bool := s / 2 ^ (n - 1 - k) % 2 == 1
def stI (zs : List Int) (b m : List Nat) : List Nat := if m.length % 2 = 1 ∧ (b = [] ∨ bet zs m b = true) then m else b
def bI (zs : List Int) (n : Nat) : Nat → List Nat
  | 0 => []
  | s + 1 => stI zs (bI zs n s) (mems (bitI s) n)
structure JSt where
  best : List Nat
  most : Int
  chance : Int
def stS (zs : List Int) (size : Nat) (x : JSt) (m : List Nat) : JSt := if m.length = size ∧ x.most < sc zs m then ⟨m, sc zs m, chL (mj (sh zs m)) size⟩ else x
def bS (zs : List Int) (n size : Nat) (x : JSt) : Nat → JSt
  | 0 => x
  | j + 1 => stS zs size (bS zs n size x j) (mems (bitS n (2 ^ n - 1 - j)) n)
def oS (zs : List Int) (n : Nat) : Nat → JSt
  | 0 => ⟨[], -1, 0⟩
  | t + 1 => bS zs n (2 * t + 1) (oS zs n t) (2 ^ n - 1)
/-! both find the same -/
def lstI (n k : Nat) : List (List Nat) := ((List.range k).map fun s => mems (bitI s) n).filter fun m => m.length % 2 == 1
def lstS (n size j : Nat) : List (List Nat) := ((List.range j).map fun j => mems (bitS n (2 ^ n - 1 - j)) n).filter fun m => m.length == size
def lstO (n : Nat) : Nat → List (List Nat)
  | 0 => []
  | t + 1 => lstO n t ++ lstS n (2 * t + 1) (2 ^ n - 1)
def Best (zs : List Int) (L : List (List Nat)) (r : List Nat) : Prop := r ∈ L ∧ ∀ m ∈ L, m ≠ r → bet zs r m = true ∧ bet zs m r = false
def InvI (zs : List Int) (L : List (List Nat)) (r b : List Nat) : Prop := (b = [] ∧ r ∉ L ∨ b ∈ L ∧ r ∉ L) ∨ b = r
theorem bI_best {zs : List Int} {n : Nat} {r : List Nat} {K : Nat} (hr : Best zs (lstI n K) r) (h0 : bet zs r r = false) : ∀ k, k ≤ K → (r ∈ lstI n k ∧ bI zs n k = r) ∨ (r ∉ lstI n k ∧ (bI zs n k = [] ∨ bI zs n k ∈ lstI n k))
  | 0, _ => .inr ⟨by simp [lstI], .inl rfl⟩
  | k + 1, hk => by
    have ih := bI_best hr h0 k (by omega)
    have hsub : ∀ m ∈ lstI n (k + 1), m ∈ lstI n K := fun m hm => by
      simp [lstI] at hm ⊢
      obtain ⟨⟨a, ha, e⟩, g⟩ := hm
      exact ⟨⟨a, by omega, e⟩, g⟩
    have hsucc : lstI n (k + 1) = lstI n k ++ (if (mems (bitI k) n).length % 2 = 1 then [mems (bitI k) n] else []) := by
      simp only [lstI, List.range_succ, List.map_append, List.filter_append]
      congr 1
      by_cases g : (mems (bitI k) n).length % 2 = 1 <;> simp [g]
    rw [bI, stI]
    generalize hM : mems (bitI k) n = M at *
    by_cases g : M.length % 2 = 1
    · rw [if_pos g] at hsucc
      have hMK : M ∈ lstI n K := hsub M (by rw [hsucc]; simp)
      rcases ih with ⟨h1, h2⟩ | ⟨h1, h2⟩
      · left
        refine ⟨by rw [hsucc]; simp [h1], ?_⟩
        rw [h2, if_neg]
        rintro ⟨_, h | h⟩
        · have : r ∈ lstI n k := h1
          rw [h] at this
          simp [lstI] at this
        · by_cases e : M = r
          · rw [e, h0] at h; cases h
          · rw [(hr.2 M hMK e).2] at h; cases h
      · by_cases e : M = r
        · left
          refine ⟨by rw [hsucc, e]; simp, ?_⟩
          rw [if_pos, e]
          refine ⟨g, h2.imp id fun hb => ?_⟩
          have hbK := hsub _ (show bI zs n k ∈ lstI n (k + 1) by rw [hsucc]; simp [hb])
          rw [e]
          exact (hr.2 _ hbK (fun e2 => h1 (e2 ▸ hb))).1
        · right
          refine ⟨by rw [hsucc]; simp [h1]; exact fun e2 => e e2.symm, ?_⟩
          split
          · right; rw [hsucc]; simp
          · rcases h2 with h2 | h2
            · exact .inl h2
            · right; rw [hsucc]; simp [h2]
    · rw [if_neg g, List.append_nil] at hsucc
      rw [hsucc, if_neg (fun h => g h.1)]
      exact ih
/-- what the reference keeps -/
def InvS (zs : List Int) (L : List (List Nat)) (x : JSt) : Prop :=
  (L = [] ∧ x = ⟨[], -1, 0⟩) ∨ (x.best ∈ L ∧ x.most = sc zs x.best ∧ x.chance = chL (mj (sh zs x.best)) x.best.length ∧ ∀ m ∈ L, m ≠ x.best → sc zs m < sc zs x.best ∨ sc zs m = sc zs x.best ∧ tlB x.best m = true ∧ tlB m x.best = false)
theorem InvS.push {zs : List Int} {L : List (List Nat)} {x : JSt} {M : List Nat} {size : Nat} (h : InvS zs L x) (hM : M.length = size) (h0 : 0 ≤ sc zs M) (hp : ∀ m ∈ L, tlB m M = true ∧ tlB M m = false) : InvS zs (L ++ [M]) (stS zs size x M) := by
  rw [stS]
  rcases h with ⟨rfl, rfl⟩ | ⟨h1, h2, h3, h4⟩
  · rw [if_pos ⟨hM, by show (-1 : Int) < _; omega⟩]
    right
    refine ⟨by simp, rfl, by simp [hM], fun m hm hne => ?_⟩
    simp at hm
    exact absurd hm hne
  · by_cases g : x.most < sc zs M
    · rw [if_pos ⟨hM, g⟩]
      right
      refine ⟨by simp, rfl, by simp [hM], fun m hm hne => .inl ?_⟩
      simp at hm
      rcases hm with hm | hm
      · by_cases e : m = x.best
        · rw [e]; show _ < sc zs M; omega
        · have := h4 m hm e
          show _ < sc zs M; omega
      · exact absurd hm hne
    · rw [if_neg (fun q => g q.2)]
      right
      refine ⟨by simp [h1], h2, h3, fun m hm hne => ?_⟩
      simp at hm
      rcases hm with hm | rfl
      · exact h4 m hm hne
      · have q := hp _ h1
        rcases Int.lt_or_le (sc zs m) (sc zs x.best) with l | l
        · exact .inl l
        · exact .inr ⟨by omega, q.1, q.2⟩
theorem bS_inv {zs : List Int} (hz : shOk zs) {n size : Nat} (hn : n ≤ 5) {L : List (List Nat)} {x : JSt} (h : InvS zs L x) : ∀ j, List.Pairwise (fun m o => tlB m o = true ∧ tlB o m = false) (L ++ lstS n size j) → InvS zs (L ++ lstS n size j) (bS zs n size x j)
  | 0, _ => by simpa [lstS, bS] using h
  | j + 1, hp => by
    have hsucc : lstS n size (j + 1) = lstS n size j ++ (if (mems (bitS n (2 ^ n - 1 - j)) n).length = size then [mems (bitS n (2 ^ n - 1 - j)) n] else []) := by
      simp only [lstS, List.range_succ, List.map_append, List.filter_append]
      congr 1
      by_cases g : (mems (bitS n (2 ^ n - 1 - j)) n).length = size <;> simp [g]
    have hl := mems_len (bitS n (2 ^ n - 1 - j)) n
    rw [bS]
    generalize hM : mems (bitS n (2 ^ n - 1 - j)) n = M at *
    by_cases g : M.length = size
    · rw [if_pos g] at hsucc
      rw [hsucc, ← List.append_assoc] at hp ⊢
      have hp2 := List.pairwise_append.1 hp
      refine (bS_inv hz hn h j hp2.1).push g (sc_bd hz (by omega)).1 fun m hm => hp2.2.2 m hm M (by simp)
    · rw [if_neg g, List.append_nil] at hsucc
      rw [hsucc] at hp ⊢
      rw [stS, if_neg (fun q => g q.1)]
      exact bS_inv hz hn h j hp
theorem oS_inv {zs : List Int} (hz : shOk zs) {n : Nat} (hn : n ≤ 5) : ∀ t, List.Pairwise (fun m o => tlB m o = true ∧ tlB o m = false) (lstO n t) → InvS zs (lstO n t) (oS zs n t)
  | 0, _ => .inl ⟨rfl, rfl⟩
  | t + 1, hp => by
    rw [lstO] at hp ⊢
    rw [oS]
    exact bS_inv hz hn (oS_inv hz hn t (List.pairwise_append.1 hp).1) _ hp
def chkB (n : Nat) : Bool := decide (List.Pairwise (fun m o => tlB m o = true ∧ tlB o m = false) (lstO n ((n + 1) / 2))) && (lstO n ((n + 1) / 2)).all (fun m => (lstI n (2 ^ n)).contains m) && (lstI n (2 ^ n)).all (fun m => (lstO n ((n + 1) / 2)).contains m) && !(lstO n ((n + 1) / 2)).isEmpty && (lstO n ((n + 1) / 2)).all (fun m => !(tlB m m))
set_option maxRecDepth 100000 in
theorem chk_all {n : Nat} (h1 : 1 ≤ n) (h5 : n ≤ 5) : chkB n = true := by
  match n, h1, h5 with
  | 1, _, _ => decide +kernel
  | 2, _, _ => decide +kernel
  | 3, _, _ => decide +kernel
  | 4, _, _ => decide +kernel
  | 5, _, _ => decide +kernel
/-- the sets that are found are one set -/
theorem jury_same {zs : List Int} (hz : shOk zs) {n : Nat} (h1 : 1 ≤ n) (h5 : n ≤ 5) :
    (oS zs n ((n + 1) / 2)).best = bI zs n (2 ^ n) ∧ (oS zs n ((n + 1) / 2)).chance = chL (mj (sh zs (bI zs n (2 ^ n)))) (bI zs n (2 ^ n)).length ∧ Best zs (lstI n (2 ^ n)) (bI zs n (2 ^ n)) := by
  have c := chk_all h1 h5
  simp only [chkB, Bool.and_eq_true, decide_eq_true_eq, List.all_eq_true, Bool.not_eq_true', List.contains_iff_mem] at c
  obtain ⟨⟨⟨⟨c1, c2⟩, c3⟩, c4⟩, c5⟩ := c
  rcases oS_inv hz h5 ((n + 1) / 2) c1 with ⟨e, _⟩ | ⟨i1, i2, i3, i4⟩
  · rw [e] at c4; simp at c4
  · generalize hr : (oS zs n ((n + 1) / 2)).best = r at *
    have hB : Best zs (lstI n (2 ^ n)) r := by
      refine ⟨c2 r i1, fun m hm hne => ?_⟩
      have q := i4 m (c3 m hm) hne
      constructor
      · rw [bet]
        rcases q with q | ⟨q, q1, q2⟩
        · rw [if_neg (by omega)]; simpa using q
        · rw [if_pos q.symm]; exact q1
      · rw [bet]
        rcases q with q | ⟨q, q1, q2⟩
        · rw [if_neg (by omega)]; simp; omega
        · rw [if_pos q]; exact q2
    have h0 : bet zs r r = false := by rw [bet, if_pos rfl]; exact c5 r i1
    rcases bI_best hB h0 (2 ^ n) (Nat.le_refl _) with ⟨_, g⟩ | ⟨g, _⟩
    · rw [g]; exact ⟨rfl, i3, hB⟩
    · exact absurd hB.1 g
def BestJury_L (zs : List Int) : List Int × Int × Int := if expB zs = true then (nv (bI zs zs.length (2 ^ zs.length)), chL (mj (sh zs (bI zs zs.length (2 ^ zs.length)))) (bI zs zs.length (2 ^ zs.length)).length, 0) else ([], 0, 1)
end Go.Proofs.Ytednmmmnkcbpjaa
