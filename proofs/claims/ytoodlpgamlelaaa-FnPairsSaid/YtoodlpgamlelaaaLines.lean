/- Rows of numbers and rows of rows: what they read as, what a call owns. -/
import Derived.Test.YtoodlpgamlelaaaRd
set_option linter.unusedVariables false
namespace Go.Proofs.Ytoodlpgamlelaaa
open Go.RowKit

def iv (zs : List Int) : List Value := zs.map (Value.int .i64)
theorem iv_len (zs : List Int) : (iv zs).length = zs.length := by simp [iv]
theorem iv_get {zs : List Int} {i : Nat} {z : Int} (h : zs[i]? = some z) : (iv zs)[i]? = some (.int .i64 z) := by simp [iv, h]
theorem iv_append (a b : List Int) : iv (a ++ b) = iv a ++ iv b := by simp [iv]
theorem iv_one (zs : List Int) : ∀ u ∈ iv zs, u.oneCell' = true := by
  intro u hu
  simp [iv] at hu
  obtain ⟨z, _, rfl⟩ := hu
  rfl
/-- only blocks lo .. hi - 1 have changed; new ones may have come -/
structure Tch (lo hi : Nat) (w w' : World) : Prop where
  os : w'.os = w.os
  tape : w'.tape = w.tape
  output : w'.output = w.output
  size : w.heap.size ≤ w'.heap.size
  block : ∀ k, k < w.heap.size → (k < lo ∨ hi ≤ k) → w'.heap[k]? = w.heap[k]?
section
variable {lo hi : Nat} {w w' w'' : World}
theorem Tch.refl (lo hi : Nat) (w : World) : Tch lo hi w w := ⟨rfl, rfl, rfl, Nat.le_refl _, fun _ _ _ => rfl⟩
theorem Tch.trans (h : Tch lo hi w w') (k : Tch lo hi w' w'') : Tch lo hi w w'' :=
  ⟨k.os.trans h.os, k.tape.trans h.tape, k.output.trans h.output, Nat.le_trans h.size k.size, fun i hi1 hi2 => (k.block i (Nat.lt_of_lt_of_le hi1 h.size) hi2).trans (h.block i hi1 hi2)⟩
theorem Tch.of_below (h : Below w.heap.size w w') (lo hi : Nat) : Tch lo hi w w' := ⟨h.os, h.tape, h.output, h.size, fun k hk _ => h.block k hk⟩
theorem Tch.of_grown {row : Option Nat} (h : w.grownBy w' row) (hr : ∀ k, row = some k → lo ≤ k ∧ k < hi) : Tch lo hi w w' :=
  ⟨h.os, h.tape, h.output, h.size, fun k hk hk2 => h.block k hk (fun e => by have := hr k e.symm; omega)⟩
theorem Tch.below (h : Tch lo hi w w') {B : Nat} {a : World} (hb : Below B a w) (hB : B ≤ lo) (hB2 : B ≤ w.heap.size) : Below B a w' :=
  hb.trans ⟨h.os, h.tape, h.output, h.size, fun k hk => h.block k (by omega) (.inl (by omega))⟩
end
/-- a slice that reads as xs and lies in blocks L .. B - 1 -/
def RdIn (w : World) (L B k : Nat) (A : Option Addr) (n : Nat) (xs : List Value) : Prop := Rd w B k A n xs ∧ (0 < n → ∀ a, A = some a → L ≤ a.block)
section
variable {w w' : World} {L B k n : Nat} {A : Option Addr} {xs : List Value}
theorem RdIn.below (h : RdIn w L B k A n xs) (hb : Below w.heap.size w w') (hB : B ≤ w.heap.size) : RdIn w' L B k A n xs := ⟨h.1.below (hb.mono hB), h.2⟩
theorem RdIn.more {L' B' : Nat} (h : RdIn w L B k A n xs) (hL : L' ≤ L) (hB : B ≤ B') : RdIn w L' B' k A n xs := ⟨h.1.more hB, fun h0 a ha => Nat.le_trans hL (h.2 h0 a ha)⟩
theorem RdIn.tch {lo hi : Nat} (h : RdIn w L B k A n xs) (t : Tch lo hi w w') (hB : B ≤ w.heap.size) (hs : B ≤ lo ∨ hi ≤ L) : RdIn w' L B k A n xs := by
  refine ⟨⟨h.1.1, fun h0 => ?_⟩, h.2⟩
  obtain ⟨b, o, e, hl, hc⟩ := h.1.2 h0
  have hL := h.2 h0 _ e
  simp at hL
  exact ⟨b, o, e, hl, fun j u hu => (World.cell?_of_block (w := w) (a := ⟨b, o + j, none⟩) (t.block b (by omega) (by omega))).trans (hc j u hu)⟩
theorem RdIn.own {e : TypeId} {c : Nat} (h : w.ownsRow L e k (.slice A n c) n xs) : RdIn w L w.heap.size k A n xs := by
  refine ⟨Rd.own h, fun h0 a ha => ?_⟩
  subst ha
  exact (h.lt a.block rfl).1
theorem RdIn.blk {g : Nat} {t : TypeId} (h : Blk w g t xs.toArray) (hx : xs.length = n * k) (hL : L ≤ g) (hg : g < B) : RdIn w L B k (some ⟨g, 0, none⟩) n xs :=
  ⟨Rd.blk h hx hg, fun _ a ha => by injection ha with ha; subst ha; exact hL⟩
end
theorem own_of_blk {w : World} {L g n : Nat} {t : TypeId} {xs : List Value} (h : Blk w g t xs.toArray) (hx : xs.length = n) (hL : L ≤ g) (hm : n ≤ maxLen) : w.ownsRow L t 1 (.slice (some ⟨g, 0, none⟩) n n) n xs :=
  ⟨by omega, .inr ⟨g, n, xs.toArray, rfl, hL, h, Nat.le_refl _, hm, by simp [hx], by simp [List.take_of_length_le, hx]⟩⟩
/-- where the numbers lie -/
theorem Rd.ints {w : World} {B n : Nat} {A : Option Addr} {zs : List Int} (h : Rd w B 1 A n (iv zs)) (hn : 0 < n) : ∃ b o, A = some ⟨b, o, none⟩ ∧ b < B ∧ ∀ i z, zs[i]? = some z → w.cell? ⟨b, o + i, none⟩ = some (.int .i64 z) := by
  obtain ⟨b, o, e, hl, hc⟩ := h.2 hn
  exact ⟨b, o, e, hl, fun i z hz => hc i _ (iv_get hz)⟩
theorem Rd.len {w : World} {B n : Nat} {A : Option Addr} {zs : List Int} (h : Rd w B 1 A n (iv zs)) : zs.length = n := by have := h.1; rw [iv_len] at this; omega
/-- a slice of rows of numbers, in blocks L .. B - 1 -/
def Rd2 (w : World) (L B : Nat) (A : Option Addr) (n : Nat) (rs : List (List Int)) : Prop :=
  rs.length = n ∧ ∃ vs : List Value, RdIn w L B 1 A n vs ∧ ∀ (i : Nat) (r : List Int), rs[i]? = some r → ∃ (Ai : Option Addr) (ci : Nat), vs[i]? = some (Value.slice Ai r.length ci) ∧ RdIn w L B 1 Ai r.length (iv r) ∧ r.length ≤ ci
section
variable {w w' : World} {L B n : Nat} {A : Option Addr} {rs : List (List Int)}
theorem Rd2.below (h : Rd2 w L B A n rs) (hb : Below w.heap.size w w') (hB : B ≤ w.heap.size) : Rd2 w' L B A n rs := by
  obtain ⟨hl, vs, h1, h2⟩ := h
  refine ⟨hl, vs, h1.below hb hB, fun i r hr => ?_⟩
  obtain ⟨Ai, ci, e, hi, hq⟩ := h2 i r hr
  exact ⟨Ai, ci, e, hi.below hb hB, hq⟩
theorem Rd2.more {L' B' : Nat} (h : Rd2 w L B A n rs) (hL : L' ≤ L) (hB : B ≤ B') : Rd2 w L' B' A n rs := by
  obtain ⟨hl, vs, h1, h2⟩ := h
  refine ⟨hl, vs, h1.more hL hB, fun i r hr => ?_⟩
  obtain ⟨Ai, ci, e, hi, hq⟩ := h2 i r hr
  exact ⟨Ai, ci, e, hi.more hL hB, hq⟩
theorem Rd2.tch {lo hi : Nat} (h : Rd2 w L B A n rs) (t : Tch lo hi w w') (hB : B ≤ w.heap.size) (hs : B ≤ lo ∨ hi ≤ L) : Rd2 w' L B A n rs := by
  obtain ⟨hl, vs, h1, h2⟩ := h
  refine ⟨hl, vs, h1.tch t hB hs, fun i r hr => ?_⟩
  obtain ⟨Ai, ci, e, hi, hq⟩ := h2 i r hr
  exact ⟨Ai, ci, e, hi.tch t hB hs, hq⟩
/-- where the rows lie -/
theorem Rd2.at_ (h : Rd2 w L B A n rs) (hn : 0 < n) : ∃ b o, A = some ⟨b, o, none⟩ ∧ b < B ∧ ∀ (i : Nat) (r : List Int), rs[i]? = some r → ∃ (Ai : Option Addr) (ci : Nat), w.cell? ⟨b, o + i, none⟩ = some (.slice Ai r.length ci) ∧ RdIn w L B 1 Ai r.length (iv r) ∧ r.length ≤ ci := by
  obtain ⟨hl, vs, h1, h2⟩ := h
  obtain ⟨b, o, e, hlt, hc⟩ := h1.1.2 hn
  refine ⟨b, o, e, hlt, fun i r hr => ?_⟩
  obtain ⟨Ai, ci, e, hi, hq⟩ := h2 i r hr
  exact ⟨Ai, ci, hc i _ e, hi, hq⟩
end
theorem Rd2.next {w w' : World} {n : Nat} {A : Option Addr} {rs : List (List Int)} (h : Rd2 w 0 w.heap.size A n rs) (hb : Below w.heap.size w w') : Rd2 w' 0 w'.heap.size A n rs := (h.below hb (Nat.le_refl _)).more (Nat.le_refl _) hb.size
theorem RdIn.all {w : World} {L B k n : Nat} {A : Option Addr} {xs : List Value} (h : RdIn w L B k A n xs) (hB : B ≤ w.heap.size) : Rd w w.heap.size k A n xs := h.1.more hB
theorem Rd2.all {w : World} {L B n : Nat} {A : Option Addr} {rs : List (List Int)} (h : Rd2 w L B A n rs) (hB : B ≤ w.heap.size) : Rd2 w 0 w.heap.size A n rs := h.more (Nat.zero_le _) hB
/-- a call that answers a new row of numbers and a code -/
def RetS (t : TypeId) (w : World) (zs : List Int) (code : Int) (e : Ending) (w' : World) : Prop := ∃ v, e = .returned (.tuple #[v, .int .i64 code]) ∧ w'.ownsRow w.heap.size t 1 v zs.length (iv zs) ∧ Below w.heap.size w w'
/-- what a call owns: a row of rows, each in a block of its own, in blocks L .. B - 1 -/
def Own2 (w : World) (L B : Nat) (ts t : TypeId) (v : Value) (n : Nat) (rs : List (List Int)) : Prop :=
  rs.length = n ∧ (∀ k, v.ownBlock = some k → k < B) ∧ ∃ vs : List Value, w.ownsRow L ts 1 v n vs ∧
    (∀ (i : Nat) (r : List Int), rs[i]? = some r → ∃ u : Value, vs[i]? = some u ∧ w.ownsRow L t 1 u r.length (iv r) ∧ ∀ k, u.ownBlock = some k → k < B) ∧
    ∀ (i j : Nat) (u u' : Value), i ≠ j → vs[i]? = some u → vs[j]? = some u' → u.ownBlock = none ∨ u.ownBlock ≠ u'.ownBlock
theorem own_val {w : World} {L n : Nat} {t : TypeId} {v : Value} {xs : List Value} (h : w.ownsRow L t 1 v n xs) : ∃ A c, v = .slice A n c := by
  rcases h.2 with ⟨rfl, rfl⟩ | ⟨g, cap, cur, rfl, _⟩
  · exact ⟨none, 0, rfl⟩
  · exact ⟨_, _, rfl⟩
theorem own_cap {w : World} {L n c : Nat} {t : TypeId} {A : Option Addr} {xs : List Value} (h : w.ownsRow L t 1 (.slice A n c) n xs) : n ≤ c := by
  rcases h.2 with ⟨h0, rfl⟩ | ⟨g, cap, cur, hv, _, _, hc, _⟩
  · omega
  · injection hv with _ _ hcap
    omega
theorem Own2.reads {w : World} {L B n c : Nat} {ts t : TypeId} {A : Option Addr} {rs : List (List Int)} (h : Own2 w L B ts t (.slice A n c) n rs) : Rd2 w L B A n rs := by
  obtain ⟨hl, hB, vs, h1, h2, _⟩ := h
  refine ⟨hl, vs, ⟨⟨h1.1, fun h0 => ?_⟩, (RdIn.own h1).2⟩, fun i r hr => ?_⟩
  · obtain ⟨b, o, e, hlt, hc⟩ := (Rd.own h1).2 h0
    exact ⟨b, o, e, hB b (by rw [e]; rfl), hc⟩
  · obtain ⟨u, e, hu, hk⟩ := h2 i r hr
    obtain ⟨Ai, ci, rfl⟩ := own_val hu
    refine ⟨Ai, ci, e, ⟨⟨hu.1, fun h0 => ?_⟩, (RdIn.own hu).2⟩, own_cap hu⟩
    obtain ⟨b, o, e, hlt, hc⟩ := (Rd.own hu).2 h0
    exact ⟨b, o, e, hk b (by rw [e]; rfl), hc⟩
/-- a call that answers a new row of rows and a code -/
def RetSS (ts t : TypeId) (w : World) (rs : List (List Int)) (code : Int) (e : Ending) (w' : World) : Prop := ∃ v, e = .returned (.tuple #[v, .int .i64 code]) ∧ Own2 w' w.heap.size w'.heap.size ts t v rs.length rs ∧ Below w.heap.size w w'
theorem own2_val {w : World} {L B n : Nat} {ts t : TypeId} {v : Value} {rs : List (List Int)} (h : Own2 w L B ts t v n rs) : ∃ A c, v = .slice A n c := by
  obtain ⟨_, _, vs, h1, _⟩ := h
  exact own_val h1
theorem Own2.below {w w' : World} {L B n : Nat} {ts t : TypeId} {v : Value} {rs : List (List Int)} (h : Own2 w L B ts t v n rs) (hb : Below w.heap.size w w') : Own2 w' L B ts t v n rs := by
  have g : w.grownBy w' none := ⟨hb.os, hb.tape, hb.output, hb.size, fun k hk _ => hb.block k hk⟩
  have q : ∀ u : Value, u.ownBlock = none ∨ u.ownBlock ≠ none := fun u => by cases u.ownBlock <;> simp
  obtain ⟨hl, hB, vs, h1, h2, h3⟩ := h
  refine ⟨hl, hB, vs, h1.kept g (q v), fun i r hr => ?_, h3⟩
  obtain ⟨u, e, ho, hk⟩ := h2 i r hr
  exact ⟨u, e, ho.kept g (q u), hk⟩
theorem own_below {w w' : World} {L n : Nat} {t : TypeId} {v : Value} {xs : List Value} (h : w.ownsRow L t 1 v n xs) (hb : Below w.heap.size w w') : w'.ownsRow L t 1 v n xs :=
  h.kept (row := none) ⟨hb.os, hb.tape, hb.output, hb.size, fun k hk _ => hb.block k hk⟩ (by cases v.ownBlock <;> simp)
theorem own_tch {w w' : World} {L n lo hi : Nat} {t : TypeId} {v : Value} {xs : List Value} (h : w.ownsRow L t 1 v n xs) (ht : Tch lo hi w w') (hs : hi ≤ L) : w'.ownsRow L t 1 v n xs := by
  refine ⟨h.1, ?_⟩
  rcases h.2 with hn | ⟨g, cap, cur, rfl, hb, hg, rest⟩
  · exact .inl hn
  · refine .inr ⟨g, cap, cur, rfl, hb, ?_, rest⟩
    rw [ht.block g (Array.getElem?_eq_some_iff.1 hg).1 (.inr (by omega))]
    exact hg
theorem Own2.tch {w w' : World} {L B n lo hi : Nat} {ts t : TypeId} {v : Value} {rs : List (List Int)} (h : Own2 w L B ts t v n rs) (ht : Tch lo hi w w') (hs : hi ≤ L) : Own2 w' L B ts t v n rs := by
  obtain ⟨hl, hB, vs, h1, h2, h3⟩ := h
  refine ⟨hl, hB, vs, own_tch h1 ht hs, fun i r hr => ?_, h3⟩
  obtain ⟨u, e, ho, hk⟩ := h2 i r hr
  exact ⟨u, e, own_tch ho ht hs, hk⟩
/-- numbers that are counted up from k -/
def cnt (k : Int) (n : Nat) : List Int := (List.range n).map fun (i : Nat) => k + (i : Int)
theorem cnt_len (k : Int) (n : Nat) : (cnt k n).length = n := by simp [cnt]
theorem cnt_get {k : Int} {n i : Nat} (h : i < n) : (cnt k n)[i]? = some (k + i) := by simp [cnt, h]
theorem cnt_all {k : Int} {n : Nat} {ys : List Value} (hl : ys.length = n) (h : ∀ j, j < n → ys[j]? = some (.int .i64 (k + j))) : ys = iv (cnt k n) := by
  apply List.ext_getElem?
  intro j
  by_cases hj : j < n
  · rw [h j hj, iv_get (cnt_get hj)]
  · rw [List.getElem?_eq_none (by omega), List.getElem?_eq_none (by rw [iv_len, cnt_len]; omega)]
/-- rows that are counted up, one behind the other -/
def cnt2 (k : Int) : List (List Int) → List (List Int)
  | [] => []
  | r :: rs => cnt k r.length :: cnt2 (k + r.length) rs
def tot : List (List Int) → Nat
  | [] => 0
  | r :: rs => r.length + tot rs
end Go.Proofs.Ytoodlpgamlelaaa
