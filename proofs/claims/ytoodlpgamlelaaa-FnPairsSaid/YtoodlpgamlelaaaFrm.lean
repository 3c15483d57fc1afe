/- Words for memory: what has changed behind a call that keeps a block and two rows. -/
import Derived.Test.YtoodlpgamlelaaaSrc
import Derived.Test.YtoodlpgamlelaaaOwn2
import Derived.Test.YtoodlpgamlelaaaCopy
import Derived.Test.YtoodlpgamlelaaaAnyS
import Derived.Maps.AppendAt
import Derived.Deep.AppendLies
import Derived.Deep.Onto
import Derived.Deep.DeepCutAuto
set_option linter.unusedVariables false
namespace Go.Proofs.Ytoodlpgamlelaaa
open Go.RowKit

theorem getD_ok {α : Type} {l : List α} {i : Nat} {x d : α} (h : l[i]? = some x) : l.getD i d = x := by simp [List.getD, h]
/-- three rows of numbers, each in a block of its own -/
structure Own3 (w : World) (L : Nat) (v1 v2 v3 : Value) (xs ys zs : List Int) : Prop where
  o1 : w.ownsRow L 2 1 v1 xs.length (iv xs)
  o2 : w.ownsRow L 2 1 v2 ys.length (iv ys)
  o3 : w.ownsRow L 2 1 v3 zs.length (iv zs)
  d12 : ∀ k, v1.ownBlock = some k → v2.ownBlock ≠ some k
  d13 : ∀ k, v1.ownBlock = some k → v3.ownBlock ≠ some k
  d23 : ∀ k, v2.ownBlock = some k → v3.ownBlock ≠ some k
/-- only block g and the rows v1, v2 have changed; new blocks may have come -/
structure Frm (w w' : World) (g : Nat) (v1 v2 : Value) : Prop where
  os : w'.os = w.os
  tape : w'.tape = w.tape
  output : w'.output = w.output
  size : w.heap.size ≤ w'.heap.size
  block : ∀ k, k < w.heap.size → k ≠ g → v1.ownBlock ≠ some k → v2.ownBlock ≠ some k → w'.heap[k]? = w.heap[k]?
/-- a row is where it was, or in a block that is new since w -/
def Nw (w : World) (v v' : Value) : Prop := v'.ownBlock = v.ownBlock ∨ ∀ k, v'.ownBlock = some k → w.heap.size ≤ k
theorem Nw.refl (w : World) (v : Value) : Nw w v v := .inl rfl
theorem Nw.trans {w w' : World} {v v' v'' : Value} (h : Nw w v v') (k : Nw w' v' v'') (hs : w.heap.size ≤ w'.heap.size) : Nw w v v'' := by
  rcases k with k | k
  · rcases h with h | h
    · exact .inl (k.trans h)
    · exact .inr fun j hj => h j (k ▸ hj)
  · exact .inr fun j hj => Nat.le_trans hs (k j hj)
theorem Nw.ne {w : World} {v v' : Value} (h : Nw w v v') {k : Nat} (hk : k < w.heap.size) (hv : v.ownBlock ≠ some k) : v'.ownBlock ≠ some k := by
  intro e
  rcases h with h | h
  · rw [h] at e; exact hv e
  · have := h k e; omega
theorem Frm.refl (w : World) (g : Nat) (v1 v2 : Value) : Frm w w g v1 v2 := ⟨rfl, rfl, rfl, Nat.le_refl _, fun _ _ _ _ _ => rfl⟩
theorem Frm.trans {w w' w'' : World} {g : Nat} {v1 v2 v1' v2' : Value} (h : Frm w w' g v1 v2) (k : Frm w' w'' g v1' v2') (n1 : Nw w v1 v1') (n2 : Nw w v2 v2') : Frm w w'' g v1 v2 :=
  ⟨k.os.trans h.os, k.tape.trans h.tape, k.output.trans h.output, Nat.le_trans h.size k.size, fun j hj hg h1 h2 => (k.block j (Nat.lt_of_lt_of_le hj h.size) hg (n1.ne hj h1) (n2.ne hj h2)).trans (h.block j hj hg h1 h2)⟩
theorem Frm.of_below {w w' : World} (h : Below w.heap.size w w') (g : Nat) (v1 v2 : Value) : Frm w w' g v1 v2 := ⟨h.os, h.tape, h.output, h.size, fun k hk _ _ _ => h.block k hk⟩
theorem Frm.setg (w : World) (g i : Nat) (u v1 v2 : Value) : Frm w (w.setCell ⟨g, i, none⟩ u) g v1 v2 :=
  ⟨rfl, rfl, rfl, by simp, fun k _ hg _ _ => Below.heap_setCell _ _ _ _ hg⟩
theorem Frm.drewN {w w' : World} {g : Nat} {v1 v2 : Value} (h : Frm w w' g v1 v2) (m : Nat) : Frm w (w'.drewN m) g v1 v2 := ⟨h.os, h.tape, h.output, h.size, h.block⟩
theorem Frm.below {w w' : World} {g : Nat} {v1 v2 : Value} (h : Frm w w' g v1 v2) (hg : g < w.heap.size) (h1 : ∀ k, v1.ownBlock = some k → g < k) (h2 : ∀ k, v2.ownBlock = some k → g < k) : Below g w w' :=
  ⟨h.os, h.tape, h.output, h.size, fun k hk => h.block k (by omega) (by omega) (fun e => by have := h1 k e; omega) (fun e => by have := h2 k e; omega)⟩
theorem Frm.setN {w w' : World} {g : Nat} {v1 v2 : Value} (h : Frm w w' g v1 v2) {p : Addr} (hp : w.heap.size ≤ p.block) (u : Value) : Frm w (w'.setCell p u) g v1 v2 :=
  ⟨h.os, h.tape, h.output, by simpa using h.size, fun k hk h0 h1 h2 => (Below.heap_setCell _ _ _ _ (by omega)).trans (h.block k hk h0 h1 h2)⟩
theorem Frm.blk {w w' : World} {g N : Nat} {t : TypeId} {cs : Array Value} {v1 v2 : Value} (h : Frm w w' g v1 v2) (hk : Blk w N t cs) (hg : N ≠ g) (h1 : v1.ownBlock ≠ some N) (h2 : v2.ownBlock ≠ some N) : Blk w' N t cs := (h.block N hk.lt hg h1 h2).trans hk
theorem own_ne {w : World} {L n : Nat} {v : Value} {xs : List Value} {N : Nat} {t : TypeId} {cs : Array Value} (h : w.ownsRow L 2 1 v n xs) (hk : Blk w N t cs) (ht : t ≠ 2) : v.ownBlock ≠ some N := by
  intro e
  rcases h.2 with ⟨rfl, _⟩ | ⟨g, cap, cur, rfl, _, hg, _⟩
  · simp [Value.ownBlock] at e
  · simp [Value.ownBlock] at e
    subst e
    unfold Blk at hk
    rw [hg] at hk
    injection hk with hk
    injection hk with _ h2
    exact ht h2.symm
theorem ob_len (A : Option Addr) (n n' c : Nat) : Value.ownBlock (.slice A n c) = Value.ownBlock (.slice A n' c) := by
  unfold Value.ownBlock
  split <;> simp_all
/-- a row that is cut by its last -/
theorem own_cut {w : World} {L n c : Nat} {A : Option Addr} {xs : List Value} {x : Value} (h : w.ownsRow L 2 1 (.slice A (n + 1) c) (n + 1) (xs ++ [x])) : w.ownsRow L 2 1 (.slice A n c) n xs := by
  have hl : xs.length = n := by have := h.1; simp at this; omega
  refine ⟨by omega, ?_⟩
  rcases h.2 with ⟨_, h0⟩ | ⟨g, cap, cur, hv, hL, hg, hc, hm, hs, ht⟩
  · omega
  · injection hv with hA _ hcap
    subst hA hcap
    refine .inr ⟨g, c, cur, rfl, hL, hg, by omega, hm, hs, ?_⟩
    have : (List.take ((n + 1) * 1) cur.toList).take n = (xs ++ [x]).take n := by rw [ht]
    rw [List.take_take, List.take_left' hl] at this
    simpa using this
section
variable {w w' : World} {L : Nat} {v1 v2 v3 : Value} {xs ys zs : List Int}
theorem Own3.keep (h : Own3 w L v1 v2 v3 xs ys zs) (hb : Below w.heap.size w w') : Own3 w' L v1 v2 v3 xs ys zs :=
  ⟨own_below h.o1 hb, own_below h.o2 hb, own_below h.o3 hb, h.d12, h.d13, h.d23⟩
theorem Own3.setb (h : Own3 w L v1 v2 v3 xs ys zs) {p : Addr} (hp : p.block < L) (u : Value) : Own3 (w.setCell p u) L v1 v2 v3 xs ys zs :=
  ⟨ownsRow_setCell_below h.o1 hp u, ownsRow_setCell_below h.o2 hp u, ownsRow_setCell_below h.o3 hp u, h.d12, h.d13, h.d23⟩
theorem own_far {n : Nat} {v : Value} {xs : List Value} (h : w.ownsRow L 2 1 v n xs) {p : Addr} (hp : v.ownBlock ≠ some p.block) (u : Value) : (w.setCell p u).ownsRow L 2 1 v n xs := by
  refine ⟨h.1, ?_⟩
  rcases h.2 with hn | ⟨g, cap, cur, rfl, hb, hg, rest⟩
  · exact .inl hn
  · refine .inr ⟨g, cap, cur, rfl, hb, ?_, rest⟩
    rw [Below.heap_setCell _ _ _ _ (fun e => hp (by simp [Value.ownBlock, e]))]
    exact hg
theorem Own3.far (h : Own3 w L v1 v2 v3 xs ys zs) {p : Addr} {t : TypeId} {cs : Array Value} (hk : Blk w p.block t cs) (ht : t ≠ 2) (u : Value) : Own3 (w.setCell p u) L v1 v2 v3 xs ys zs :=
  ⟨own_far h.o1 (own_ne h.o1 hk ht) u, own_far h.o2 (own_ne h.o2 hk ht) u, own_far h.o3 (own_ne h.o3 hk ht) u, h.d12, h.d13, h.d23⟩
end
/-- append of one number, as one step of a region that draws its order -/
theorem stepApp1 {w : World} {o : Oper} {a : Act} {K : Act → World → Prop} {Q : Exit → Act → World → Prop} (s x : Operand)
    (ho : o.op = .call { callee := .builtin .append, args := #[s, x], argTypes := #[31, 31] }) (L : Nat) (v : Value) (n m : Nat) (hm : m = n + 1) (xs : List Int) (z : Int) (hs : a.eval s = v) (hown : w.ownsRow L 2 1 v xs.length (iv xs)) (hx0 : xs.length = n) (B : Nat)
    (hx : a.eval x = .slice (some ⟨B, 0, none⟩) 1 1) (hB : Blk w B 2 #[.int .i64 z]) (hL : L ≤ w.heap.size) (hn : n ≤ 1099511627776)
    (h : ∀ q cap w', w'.ownsRow L 2 1 (.slice (some ⟨q, 0, none⟩) m cap) (xs ++ [z]).length (iv (xs ++ [z])) → w.grownBy w' v.ownBlock → (v.ownBlock = some q ∨ q = w.heap.size) → K (a.put o.dst (.slice (some ⟨q, 0, none⟩) m cap)) w') : o.wp Try.prog a w K Q := by
  subst hm
  subst hx0
  obtain ⟨i0, hi, hz0, hz1, hz2⟩ := info_parts info64
  refine wp_append_lies w s x 31 ho L 2 i0 (.int .i64 0) 1 8 Try.underlying31 hi hz0 hz1 hz2 rfl (by decide) v xs.length (iv xs) hs hown ⟨B, 0, none⟩ 1 1 [.int .i64 z] hx rfl ?_ ?_ (by omega) ?_ ?_ hL w.heap.size rfl ?_
  · intro j u hu
    match j, hu with
    | 0, hu => simp at hu; subst hu; exact hB.cell 0
    | j + 1, hu => simp at hu
  · intro u hu
    simp at hu
    subst hu
    rfl
  · unfold maxLen; omega
  · omega
  · intro q cap w' h1 h2 h3 _
    refine h q cap w' ?_ h2 h3
    simpa [iv_append, iv] using h1
theorem Rd2.belowB {w w' : World} {L B n : Nat} {A : Option Addr} {rs : List (List Int)} (h : Rd2 w L B A n rs) (hb : Below B w w') : Rd2 w' L B A n rs := by
  obtain ⟨hl, vs, h1, h2⟩ := h
  refine ⟨hl, vs, ⟨h1.1.below hb, h1.2⟩, fun i r hr => ?_⟩
  obtain ⟨Ai, ci, e, hi, hq⟩ := h2 i r hr
  exact ⟨Ai, ci, e, ⟨hi.1.below hb, hi.2⟩, hq⟩
/-! between the two appends and the stores -/
structure Mid (w0 w : World) (g N : Nat) (tg tn : TypeId) (cg cn : Array Value) (V1 V2 x1 x2 x3 : Value) (xs ys zs : List Int) : Prop where
  k : Blk w g tg cg
  kn : Blk w N tn cn
  o : Own3 w (g + 1) x1 x2 x3 xs ys zs
  f : Frm w0 w g V1 V2
  n1 : Nw w0 V1 x1
  n2 : Nw w0 V2 x2
section
variable {w0 w w' : World} {g N : Nat} {tg tn : TypeId} {cg cn : Array Value} {V1 V2 x1 x2 x3 : Value} {xs ys zs : List Int}
theorem Mid.alloc (h : Mid w0 w g N tg tn cg cn V1 V2 x1 x2 x3 xs ys zs) (o : Obj) : Mid w0 (w.alloc o) g N tg tn cg cn V1 V2 x1 x2 x3 xs ys zs := by
  have b := (Below.refl w.heap.size w).alloc (Nat.le_refl _) o
  exact ⟨h.k.alloc o, h.kn.alloc o, h.o.keep b, h.f.trans (Frm.of_below b g _ _) (Nw.refl _ _) (Nw.refl _ _), h.n1, h.n2⟩
theorem Mid.drew (h : Mid w0 w g N tg tn cg cn V1 V2 x1 x2 x3 xs ys zs) : Mid w0 w.drew g N tg tn cg cn V1 V2 x1 x2 x3 xs ys zs :=
  ⟨h.k, h.kn, ⟨h.o.o1, h.o.o2, h.o.o3, h.o.d12, h.o.d13, h.o.d23⟩, ⟨h.f.os, h.f.tape, h.f.output, h.f.size, h.f.block⟩, h.n1, h.n2⟩
theorem own_kept {n : Nat} {v u : Value} {xs : List Value} (h : w.ownsRow (g + 1) 2 1 u n xs) (hg : w.grownBy w' v.ownBlock) (hs : ∀ k, v.ownBlock = some k → u.ownBlock ≠ some k) : w'.ownsRow (g + 1) 2 1 u n xs := by
  refine h.kept hg ?_
  cases hv : u.ownBlock with
  | none => exact .inl rfl
  | some k => exact .inr fun e => hs k e.symm hv
theorem Mid.app1 (h : Mid w0 w g N tg tn cg cn V1 V2 x1 x2 x3 xs ys zs) (ht : tg ≠ 2) (hn : tn ≠ 2) {q cap m : Nat} {us : List Int} (ho : w'.ownsRow (g + 1) 2 1 (.slice (some ⟨q, 0, none⟩) m cap) us.length (iv us)) (hg : w.grownBy w' x1.ownBlock) (hl : x1.ownBlock = some q ∨ q = w.heap.size) :
    Mid w0 w' g N tg tn cg cn V1 V2 (.slice (some ⟨q, 0, none⟩) m cap) x2 x3 us ys zs := by
  have hb : Value.ownBlock (.slice (some ⟨q, 0, none⟩) m cap) = some q := rfl
  have d : ∀ (u : Value) (n : Nat) (l : List Value), w.ownsRow (g + 1) 2 1 u n l → (∀ k, x1.ownBlock = some k → u.ownBlock ≠ some k) → ∀ k, some q = some k → u.ownBlock ≠ some k := by
    intro u n l hu hd k hk e
    injection hk with hk
    subst hk
    rcases hl with hl | hl
    · exact hd q hl e
    · have := (hu.lt q e).2; omega
  refine ⟨h.k.grown hg (fun e => own_ne h.o.o1 h.k ht e.symm), h.kn.grown hg (fun e => own_ne h.o.o1 h.kn hn e.symm), ⟨ho, own_kept h.o.o2 hg h.o.d12, own_kept h.o.o3 hg h.o.d13, d x2 _ _ h.o.o2 h.o.d12, d x3 _ _ h.o.o3 h.o.d13, h.o.d23⟩, ?_, ?_, h.n2⟩
  · refine h.f.trans (v1' := x1) (v2' := V2) ⟨hg.os, hg.tape, hg.output, hg.size, fun k hk h0 h1 h2 => hg.block k hk (fun e => h1 e.symm)⟩ h.n1 (Nw.refl _ _)
  · refine h.n1.trans (w' := w) ?_ h.f.size
    rcases hl with hl | hl
    · exact .inl (by rw [hb, hl])
    · exact .inr fun k hk => by rw [hb] at hk; injection hk with hk; omega
theorem Mid.app2 (h : Mid w0 w g N tg tn cg cn V1 V2 x1 x2 x3 xs ys zs) (ht : tg ≠ 2) (hn : tn ≠ 2) {q cap m : Nat} {us : List Int} (ho : w'.ownsRow (g + 1) 2 1 (.slice (some ⟨q, 0, none⟩) m cap) us.length (iv us)) (hg : w.grownBy w' x2.ownBlock) (hl : x2.ownBlock = some q ∨ q = w.heap.size) :
    Mid w0 w' g N tg tn cg cn V1 V2 x1 (.slice (some ⟨q, 0, none⟩) m cap) x3 xs us zs := by
  have hb : Value.ownBlock (.slice (some ⟨q, 0, none⟩) m cap) = some q := rfl
  have d21 : ∀ k, x2.ownBlock = some k → x1.ownBlock ≠ some k := fun k h2 h1 => h.o.d12 k h1 h2
  refine ⟨h.k.grown hg (fun e => own_ne h.o.o2 h.k ht e.symm), h.kn.grown hg (fun e => own_ne h.o.o2 h.kn hn e.symm), ⟨own_kept h.o.o1 hg d21, ho, own_kept h.o.o3 hg h.o.d23, ?_, h.o.d13, ?_⟩, ?_, h.n1, ?_⟩
  · intro k hk e
    rw [hb] at e
    injection e with e
    subst e
    rcases hl with hl | hl
    · exact h.o.d12 _ hk hl
    · have := (h.o.o1.lt _ hk).2; omega
  · intro k hk e
    rw [hb] at hk
    injection hk with hk
    subst hk
    rcases hl with hl | hl
    · exact h.o.d23 _ hl e
    · have := (h.o.o3.lt _ e).2; omega
  · refine h.f.trans (v1' := V1) (v2' := x2) ⟨hg.os, hg.tape, hg.output, hg.size, fun k hk h0 h1 h2 => hg.block k hk (fun e => h2 e.symm)⟩ (Nw.refl _ _) h.n2
  · refine h.n2.trans (w' := w) ?_ h.f.size
    rcases hl with hl | hl
    · exact .inl (by rw [hb, hl])
    · exact .inr fun k hk => by rw [hb] at hk; injection hk with hk; omega
theorem Mid.store (h : Mid w0 w g N tg tn cg cn V1 V2 x1 x2 x3 xs ys zs) (hN : g ≠ N) (i : Nat) (u : Value) : Mid w0 (w.setCell ⟨g, i, none⟩ u) g N tg tn (cg.setIfInBounds i u) cn V1 V2 x1 x2 x3 xs ys zs :=
  ⟨h.k.set_ i u, h.kn.far (p := ⟨g, i, none⟩) (fun e => hN e.symm) u, h.o.setb (p := ⟨g, i, none⟩) (by simp) u, h.f.trans (Frm.setg w g i u _ _) (Nw.refl _ _) (Nw.refl _ _), h.n1, h.n2⟩
end
/-- what the loads of the two appends read -/
def S18 (g i j k : Nat) (x y z : Value) (w : World) : Prop := w.cell? ⟨g, i, none⟩ = some x ∧ w.cell? ⟨g, j, none⟩ = some y ∧ w.cell? ⟨g, k, none⟩ = some z
theorem Frm.more {w w' w'' : World} {g : Nat} {v1 v2 : Value} (h : Frm w w' g v1 v2) (k : Frm w' w'' g v1 v2) : Frm w w'' g v1 v2 := h.trans k (Nw.refl _ _) (Nw.refl _ _)
theorem own_len {w : World} {L n : Nat} {v : Value} {zs : List Int} (h : w.ownsRow L 2 1 v n (iv zs)) : zs.length = n := by have := h.1; rw [iv_len] at this; omega
theorem Blk.tch {w w' : World} {N lo hi : Nat} {t : TypeId} {cs : Array Value} (h : Blk w N t cs) (ht : Tch lo hi w w') (hs : N < lo ∨ hi ≤ N) : Blk w' N t cs := (ht.block N h.lt hs).trans h
theorem tch_below2 {lo hi : Nat} {a b c : World} (h : Tch lo hi a b) (k : Below b.heap.size b c) : Tch lo hi a c := h.trans (Tch.of_below k lo hi)
theorem tch_new {lo hi : Nat} {a w : World} (h : Tch lo hi a w) {p : Addr} (hp : a.heap.size ≤ p.block) (u : Value) : Tch lo hi a (w.setCell p u) :=
  ⟨h.os, h.tape, h.output, by simpa using h.size, fun k hk hs => (Below.heap_setCell _ _ _ _ (by omega)).trans (h.block k hk hs)⟩
theorem SrcS.far {w : World} {g M : Nat} (h : SrcS w g M) {p : Addr} (hp : g < p.block) (u : Value) : SrcS (w.setCell p u) g M :=
  h.below ((Below.refl (g + 1) w).setCell (p := p) hp u) (by omega)
theorem own_tchK {w w' : World} {L n k lo hi : Nat} {t : TypeId} {v : Value} {xs : List Value} (h : w.ownsRow L t k v n xs) (ht : Tch lo hi w w') (hs : hi ≤ L) : w'.ownsRow L t k v n xs := by
  refine ⟨h.1, ?_⟩
  rcases h.2 with hn | ⟨g, cap, cur, hv, hb, hg, rest⟩
  · exact .inl hn
  · refine .inr ⟨g, cap, cur, hv, hb, ?_, rest⟩
    have hlt : g < w.heap.size := by
      rcases Nat.lt_or_ge g w.heap.size with h' | h'
      · exact h'
      · rw [Array.getElem?_eq_none h'] at hg; cases hg
    rw [ht.block g hlt (.inr (by omega))]
    exact hg
theorem own_farK {w : World} {L n k : Nat} {t : TypeId} {v : Value} {xs : List Value} (h : w.ownsRow L t k v n xs) {p : Addr} (hp : v.ownBlock ≠ some p.block) (u : Value) : (w.setCell p u).ownsRow L t k v n xs := by
  refine ⟨h.1, ?_⟩
  rcases h.2 with hn | ⟨g, cap, cur, rfl, hb, hg, rest⟩
  · exact .inl hn
  · refine .inr ⟨g, cap, cur, rfl, hb, ?_, rest⟩
    rw [Below.heap_setCell _ _ _ _ (fun e => hp (by simp [Value.ownBlock, e]))]
    exact hg
theorem own_neK {w : World} {L n k : Nat} {v : Value} {xs : List Value} {N : Nat} {t t' : TypeId} {cs : Array Value} (h : w.ownsRow L t' k v n xs) (hk : Blk w N t cs) (ht : t ≠ t') : v.ownBlock ≠ some N := by
  intro e
  rcases h.2 with ⟨rfl, _⟩ | ⟨g, cap, cur, rfl, _, hg, _⟩
  · simp [Value.ownBlock] at e
  · simp [Value.ownBlock] at e
    subst e
    unfold Blk at hk
    rw [hg] at hk
    injection hk with hk
    injection hk with _ h2
    exact ht h2.symm
theorem tch_on {lo hi : Nat} {a b c : World} (h : Tch lo hi a b) (k : Below a.heap.size b c) : Tch lo hi a c :=
  ⟨k.os.trans h.os, k.tape.trans h.tape, k.output.trans h.output, Nat.le_trans h.size k.size, fun i h1 h2 => (k.block i h1).trans (h.block i h1 h2)⟩
theorem own_emptyK (w : World) (t : TypeId) (k : Nat) : (w.alloc (.cells #[] t)).ownsRow w.heap.size t k (.slice (some ⟨w.heap.size, 0, none⟩) 0 0) 0 [] :=
  World.ownsRow_lit w #[] 0 (Nat.le_refl _) (Nat.zero_le _) (by simp)
theorem own_belowB {w w' : World} {L n k B : Nat} {t : TypeId} {v : Value} {xs : List Value} (h : w.ownsRow L t k v n xs) (hb : Below B w w') (hB : ∀ q, v.ownBlock = some q → q < B) : w'.ownsRow L t k v n xs := by
  refine ⟨h.1, ?_⟩
  rcases h.2 with hn | ⟨g, cap, cur, rfl, hl, hg, rest⟩
  · exact .inl hn
  · refine .inr ⟨g, cap, cur, rfl, hl, ?_, rest⟩
    rw [hb.block g (hB g rfl)]
    exact hg
theorem Own2.belowB {w w' : World} {L B B' n : Nat} {ts t : TypeId} {v : Value} {rs : List (List Int)} (h : Own2 w L B ts t v n rs) (hb : Below B' w w') (hB : B ≤ B') : Own2 w' L B ts t v n rs := by
  obtain ⟨hl, hB2, vs, h1, h2, h3⟩ := h
  refine ⟨hl, hB2, vs, own_belowB h1 hb (fun q hq => by have := hB2 q hq; omega), fun i r hr => ?_, h3⟩
  obtain ⟨u, e, ho, hk⟩ := h2 i r hr
  exact ⟨u, e, own_belowB ho hb (fun q hq => by have := hk q hq; omega), hk⟩
theorem own2_less {w : World} {L L' B n : Nat} {ts t : TypeId} {v : Value} {rs : List (List Int)} (h : Own2 w L B ts t v n rs) (hL : L' ≤ L) : Own2 w L' B ts t v n rs := by
  obtain ⟨hl, hB2, vs, h1, h2, h3⟩ := h
  refine ⟨hl, hB2, vs, own_less h1 hL, fun i r hr => ?_, h3⟩
  obtain ⟨u, e, ho, hk⟩ := h2 i r hr
  exact ⟨u, e, own_less ho hL, hk⟩
end Go.Proofs.Ytoodlpgamlelaaa
