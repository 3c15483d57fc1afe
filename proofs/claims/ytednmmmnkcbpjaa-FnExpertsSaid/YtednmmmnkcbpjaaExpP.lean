/- FnExperts: plain. -/
import Derived.Test.YtednmmmnkcbpjaaJuryS
set_option linter.unusedVariables false
namespace Go.Proofs.Ytednmmmnkcbpjaa
open Go.RowKit

theorem div_two {a b d : Int} (a0 : 0 ≤ a) (b0 : 0 ≤ b) (hd : 1 ≤ d) : a / d + b / d ≤ (a + b) / d ∧ (a + b) / d ≤ a / d + b / d + 1 := by
  have e1 := Int.mul_ediv_add_emod a d
  have e2 := Int.mul_ediv_add_emod b d
  have m1 := Int.emod_nonneg a (show d ≠ 0 by omega)
  have m2 := Int.emod_nonneg b (show d ≠ 0 by omega)
  have n1 := Int.emod_lt_of_pos a (show 0 < d by omega)
  have n2 := Int.emod_lt_of_pos b (show 0 < d by omega)
  constructor
  · apply Int.le_ediv_of_mul_le (by omega)
    rw [Int.mul_comm, Int.mul_add]; omega
  · apply Int.le_of_lt_add_one
    apply Int.ediv_lt_of_lt_mul (by omega)
    rw [Int.mul_comm, show a / d + b / d + 1 + 1 = a / d + b / d + 2 by omega, Int.mul_add, Int.mul_add]; omega
theorem chL_add {a b : Int} (a0 : 0 ≤ a) (b0 : 0 ≤ b) (n : Nat) : chL a n + chL b n ≤ chL (a + b) n ∧ chL (a + b) n ≤ chL a n + chL b n + 1 := by
  unfold chL
  split
  · omega
  · exact div_two a0 b0 (thou_pos _)
theorem chL_nn {a : Int} (a0 : 0 ≤ a) (n : Nat) : 0 ≤ chL a n := by
  unfold chL
  split
  · omega
  · exact Int.ediv_nonneg a0 (by have := thou_pos (n - 2); omega)
theorem chL_le {a b : Int} (a0 : 0 ≤ a) (h : a ≤ b) (n : Nat) : chL a n ≤ chL b n := by
  have := chL_add a0 (show 0 ≤ b - a by omega) n
  have q := chL_nn (show 0 ≤ b - a by omega) n
  rw [show a + (b - a) = b by omega] at this
  omega
theorem chL_z (n : Nat) : chL 0 n = 0 := by unfold chL; split <;> simp
theorem chL_all {n : Nat} (h1 : 1 ≤ n) : chL (thou n) n = 1000000 := by
  unfold chL
  split
  · rename_i h; subst h; decide
  · rw [show thou n = thou (n - 2) * 1000000 by
      obtain ⟨m, rfl⟩ : ∃ m, n = m + 2 := ⟨n - 2, by omega⟩
      rw [thou, thou, Int.mul_assoc]; rfl]
    exact Int.mul_ediv_cancel_left _ (by have := thou_pos (n - 2); omega)
theorem chL_bd {a : Int} {n : Nat} (h1 : 1 ≤ n) (a0 : 0 ≤ a) (a1 : a ≤ thou n) : 0 ≤ chL a n ∧ chL a n ≤ 1000000 :=
  ⟨chL_nn a0 n, by have := chL_le a0 a1 n; rw [chL_all h1] at this; exact this⟩
theorem thou_1 {n : Nat} (h : 1 ≤ n) : 1000 ≤ thou n := by
  obtain ⟨m, rfl⟩ : ∃ m, n = m + 1 := ⟨n - 1, by omega⟩
  have := thou_pos m
  rw [thou]; omega
/-- the sums -/
def exS (zs : List Int) (n : Nat) : Nat → Int
  | 0 => 0
  | k + 1 => exS zs n k + chL (wy zs n k) n
def moS (zs : List Int) (n : Nat) : Nat → Int
  | 0 => 0
  | k + 1 => moS zs n k + (if n < 2 * k then chL (wy zs n k) n else 0)
theorem smTo_nn {zs : List Int} {n : Nat} (h : ∀ k, 0 ≤ wy zs n k) : ∀ k, 0 ≤ smTo zs n k
  | 0 => by simp [smTo]
  | k + 1 => by have := smTo_nn h k; have := h k; rw [smTo]; omega
theorem exS_bd {zs : List Int} {n : Nat} (h : ∀ k, 0 ≤ wy zs n k) : ∀ k, exS zs n k ≤ chL (smTo zs n k) n ∧ chL (smTo zs n k) n ≤ exS zs n k + k
  | 0 => by simp [exS, smTo, chL_z]
  | k + 1 => by
    have ih := exS_bd h k
    have a := chL_add (smTo_nn h k) (h k) n
    rw [exS, smTo]; omega
theorem moS_bd {zs : List Int} {n : Nat} (h : ∀ k, 0 ≤ wy zs n k) : ∀ k, moS zs n k ≤ chL (mjTo zs n k) n ∧ chL (mjTo zs n k) n ≤ moS zs n k + (k - 1 : Nat)
  | 0 => by simp [moS, mjTo, chL_z]
  | k + 1 => by
    have ih := moS_bd h k
    rw [moS, mjTo]
    split
    · rename_i g
      have a := chL_add (mjTo_sm h k).1 (h k) n
      omega
    · rw [Int.add_zero, Int.add_zero]; omega
theorem exS_pre {zs : List Int} {n : Nat} (h1 : 1 ≤ n) (h : ∀ k, 0 ≤ wy zs n k ∧ wy zs n k ≤ thou n) : ∀ k, 0 ≤ exS zs n k ∧ exS zs n k ≤ 1000000 * k ∧ 0 ≤ moS zs n k ∧ moS zs n k ≤ 1000000 * k
  | 0 => by simp [exS, moS]
  | k + 1 => by
    have ih := exS_pre h1 h k
    have a := chL_bd h1 (h k).1 (h k).2
    rw [exS, moS]
    split <;> omega
theorem wy_all {zs : List Int} (h : shOk zs) (k : Nat) : 0 ≤ wy zs zs.length k ∧ wy zs zs.length k ≤ thou zs.length := wy_bd h zs.length k (Nat.le_refl _)
theorem exS_end {zs : List Int} (h : shOk zs) (h1 : 1 ≤ zs.length) : exS zs zs.length (zs.length + 1) ≤ 1000000 ∧ 1000000 - (zs.length : Int) - 1 ≤ exS zs zs.length (zs.length + 1) ∧ moS zs zs.length (zs.length + 1) ≤ chL (mj zs) zs.length ∧ chL (mj zs) zs.length - zs.length ≤ moS zs zs.length (zs.length + 1) := by
  have a := exS_bd (fun k => (wy_all h k).1) (zs.length + 1)
  have b := moS_bd (fun k => (wy_all h k).1) (zs.length + 1)
  rw [smTo_all, chL_all h1] at a
  rw [show mjTo zs zs.length (zs.length + 1) = mj zs from rfl] at b
  omega
theorem fr_sm (zs : List Int) (n l : Nat) : ∀ j, frTo zs n l j + smTo zs n l = smTo zs n (l + j)
  | 0 => by simp [frTo]
  | j + 1 => by have := fr_sm zs n l j; rw [frTo, ← Nat.add_assoc, smTo]; omega
theorem mj_0 {zs : List Int} {n : Nat} (h : ∀ k, 0 ≤ wy zs n k) : ∀ k, mjTo zs n (k + 1) + wy zs n 0 ≤ smTo zs n (k + 1)
  | 0 => by simp [mjTo, smTo]
  | k + 1 => by
    have ih := mj_0 h k
    have := h (k + 1)
    rw [mjTo, smTo]
    split <;> omega
theorem mj_any {zs : List Int} (h : shOk zs) : mj zs ≤ frTo zs zs.length 1 zs.length := by
  have a := mj_0 (fun k => (wy_all h k).1) zs.length
  have b := fr_sm zs zs.length 1 zs.length
  rw [Nat.add_comm 1] at b
  have c : smTo zs zs.length 1 = wy zs zs.length 0 := by simp [smTo]
  rw [show mjTo zs zs.length (zs.length + 1) = mj zs from rfl] at a
  omega
/-! the jury -/
theorem sc_ch {zs : List Int} (h : shOk zs) {m : List Nat} (h1 : 1 ≤ m.length) (h5 : m.length ≤ 5) : chL (mj (sh zs m)) m.length = sc zs m / 1000000000 := by
  unfold sc chL
  generalize mj (sh zs m) = x
  generalize m.length = k at *
  match k, h1, h5 with
  | 1, _, _ => simp [thou]; try omega
  | 2, _, _ => simp [thou]; try omega
  | 3, _, _ => simp [thou]; try omega
  | 4, _, _ => simp [thou]; try omega
  | 5, _, _ => simp [thou]; try omega
theorem lst_odd {n k : Nat} {m : List Nat} (h : m ∈ lstI n k) : m.length % 2 = 1 ∧ m.length ≤ n ∧ ∃ p, m = mems p n := by
  simp [lstI] at h
  obtain ⟨⟨a, _, rfl⟩, g⟩ := h
  exact ⟨g, mems_len _ _, _, rfl⟩
theorem best_ch {zs : List Int} (hz : shOk zs) {n K : Nat} (h5 : n ≤ 5) {r : List Nat} (hr : Best zs (lstI n K) r) {m : List Nat} (hm : m ∈ lstI n K) : chL (mj (sh zs m)) m.length ≤ chL (mj (sh zs r)) r.length := by
  have a := lst_odd hm
  have b := lst_odd hr.1
  rw [sc_ch hz (by omega) (by omega), sc_ch hz (by omega) (by omega)]
  have : sc zs m ≤ sc zs r := by
    by_cases e : m = r
    · rw [e]; exact Int.le_refl _
    · have q := (hr.2 m hm e).1
      rw [bet] at q
      split at q
      · omega
      · simp at q; omega
  omega
def bits5 (a b c d e : Bool) (i : Nat) : Bool := [a, b, c, d, e].getD i false
theorem mems_congr {p q : Nat → Bool} {n : Nat} (h : ∀ i, i < n → p i = q i) : mems p n = mems q n := by
  unfold mems
  apply List.filter_congr
  intro x hx
  exact h x (by simpa using hx)
set_option maxRecDepth 100000 in
theorem mems5 {n : Nat} (h1 : 1 ≤ n) (h5 : n ≤ 5) : ∀ a b c d e : Bool, (mems (bits5 a b c d e) n).length % 2 = 1 → mems (bits5 a b c d e) n ∈ lstI n (2 ^ n) := by
  match n, h1, h5 with
  | 1, _, _ => decide +kernel
  | 2, _, _ => decide +kernel
  | 3, _, _ => decide +kernel
  | 4, _, _ => decide +kernel
  | 5, _, _ => decide +kernel
theorem mems_in {n : Nat} (h1 : 1 ≤ n) (h5 : n ≤ 5) {p : Nat → Bool} (h : (mems p n).length % 2 = 1) : mems p n ∈ lstI n (2 ^ n) := by
  have e : mems p n = mems (bits5 (p 0) (p 1) (p 2) (p 3) (p 4)) n := mems_congr fun i hi => by
    have : i = 0 ∨ i = 1 ∨ i = 2 ∨ i = 3 ∨ i = 4 := by omega
    rcases this with rfl | rfl | rfl | rfl | rfl <;> rfl
  rw [e] at h ⊢
  exact mems5 h1 h5 _ _ _ _ _ h
theorem mems_one {n i : Nat} (h : i < n) : mems (fun j => j == i) n = [i] := by
  induction n with
  | zero => omega
  | succ n ih =>
    by_cases e : i = n
    · subst e
      rw [mems_t (by simp)]
      have : mems (fun j => j == i) i = [] := by
        simp [mems]
        intro a ha e; omega
      rw [this]; rfl
    · rw [mems_f (by simp; omega)]; exact ih (by omega)
theorem mems_full (n : Nat) : mems (fun _ => true) n = List.range n := by simp [mems]
theorem sh_full (zs : List Int) : sh zs (List.range zs.length) = zs := by
  apply List.ext_getElem?
  intro i
  by_cases h : i < zs.length
  · simp [sh, h]
  · simp [sh, h]
theorem mj_one (z : Int) : mj [z] = z := by simp [mj, mjTo, wy]
theorem mems_sorted (p : Nat → Bool) (n : Nat) : (mems p n).Pairwise (· < ·) := (List.pairwise_lt_range).filter _
/-- what the law asks of the best jury -/
theorem best_facts {zs : List Int} (hz : shOk zs) {n : Nat} (hn : zs.length = n) (h1 : 1 ≤ n) (h5 : n ≤ 5) {b : List Nat} (hb : Best zs (lstI n (2 ^ n)) b) :
    (n % 2 = 1 → chL (mj zs) n ≤ chL (mj (sh zs b)) b.length) ∧ (∀ i, i < n → 1000 * zs.getD i 0 ≤ chL (mj (sh zs b)) b.length) ∧ ∀ p, (mems p n).length % 2 = 1 → chL (mj (sh zs (mems p n))) (mems p n).length ≤ chL (mj (sh zs b)) b.length := by
  refine ⟨fun ho => ?_, fun i hi => ?_, fun p hp => best_ch hz h5 hb (mems_in h1 h5 hp)⟩
  · have := best_ch hz h5 hb (mems_in h1 h5 (p := fun _ => true) (by rw [mems_full]; simpa using ho))
    rw [mems_full, ← hn, sh_full, List.length_range] at this
    rw [← hn]; exact this
  · have := best_ch hz h5 hb (mems_in h1 h5 (p := fun j => j == i) (by rw [mems_one hi]; rfl))
    rw [mems_one hi] at this
    rw [show sh zs [i] = [zs.getD i 0] from rfl, mj_one, show chL (zs.getD i 0) [i].length = 1000 * zs.getD i 0 by simp [chL, Int.mul_comm]] at this
    exact this
theorem zs_shOk {zs : List Int} (h : ∀ z ∈ zs, 0 ≤ z ∧ z ≤ 1000) : shOk zs := fun k hk => getD_mem h
theorem exTo_ok {zs : List Int} (h : shOk zs) : ∀ k, k ≤ zs.length → exTo zs k = true
  | 0, _ => rfl
  | k + 1, hk => by rw [exTo, exTo_ok h k (by omega), inB_mk (h k (by omega))]; rfl
theorem exp_ok {zs : List Int} (h : shOk zs) (h1 : 1 ≤ zs.length) (h5 : zs.length ≤ 5) : expB zs = true := by
  rw [expB, exTo_ok h _ (Nat.le_refl _), inB_mk (by omega)]; rfl
end Go.Proofs.Ytednmmmnkcbpjaa
