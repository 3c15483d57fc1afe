/- Pairs of planks: what the reference's search keeps in memory. -/
import Derived.Test.YtoodlpgamlelaaaPairM
set_option linter.unusedVariables false
set_option linter.unusedSimpArgs false
namespace Go.Proofs.Ytoodlpgamlelaaa
open Go.RowKit

/-- append of one row's header -/
theorem listAppH {w : World} {ops : Array Oper} {rest : List Oper} {o : Oper} {a : Act} {Q : Exit → Act → World → Prop} (hgd : o.guard = none) (s x : Operand)
    (ho : o.op = .call { callee := .builtin .append, args := #[s, x], argTypes := #[26, 26] }) (L : Nat) (v : Value) (n m : Nat) (hm : m = n + 1) (vs : List Value) (u : Value) (hu1 : u.oneCell' = true) (hs : a.eval s = v) (hown : w.ownsRow L 31 1 v n vs) (B : Nat)
    (hx : a.eval x = .slice (some ⟨B, 0, none⟩) 1 1) (hB : Blk w B 31 #[u]) (hL : L ≤ w.heap.size) (hn : n ≤ 1000000)
    (h : ∀ q cap w', w'.ownsRow L 31 1 (.slice (some ⟨q, 0, none⟩) m cap) m (vs ++ [u]) → w.grownBy w' v.ownBlock → (v.ownBlock = some q ∨ q = w.heap.size) → wpList Try.prog ops Q rest (a.put o.dst (.slice (some ⟨q, 0, none⟩) m cap)) w') : wpList Try.prog ops Q (o :: rest) a w := by
  subst hm
  obtain ⟨i0, hi, hz0, hz1, hz2⟩ := info_parts info27
  refine wpList_append_lies w hgd s x 26 ho L 31 i0 (.slice none 0 0) 1 24 Try.underlying26 hi hz0 hz1 hz2 rfl (by decide) v n vs hs hown ⟨B, 0, none⟩ 1 1 [u] hx rfl ?_ ?_ (by omega) ?_ ?_ hL w.heap.size rfl ?_
  · intro j u' hu
    match j, hu with
    | 0, hu => simp at hu; subst hu; exact hB.cell 0
    | j + 1, hu => simp at hu
  · intro u' hu
    simp at hu
    subst hu
    exact hu1
  · unfold maxLen; omega
  · omega
  · intro q cap w' h1 h2 h3 _
    exact h q cap w' h1 h2 h3
/-- the rows of pairs lie in blocks of their own -/
def RowsR (w : World) (vs : List Value) (ps : List (Nat × Nat)) : Prop := vs.length = ps.length ∧ ∀ (j : Nat) (p : Nat × Nat), ps[j]? = some p → ∃ b, vs[j]? = some (.slice (some ⟨b, 0, none⟩) 2 2) ∧ Blk w b 2 #[.int .i64 (p.1 : Int), .int .i64 (p.2 : Int)]
section
variable {w w' : World} {vs : List Value} {ps : List (Nat × Nat)}
theorem RowsR.nil (w : World) : RowsR w [] [] := ⟨rfl, fun j p h => by simp at h⟩
theorem RowsR.keep (h : RowsR w vs ps) (hb : Below w.heap.size w w') : RowsR w' vs ps := ⟨h.1, fun j p hp => by obtain ⟨b, e, k⟩ := h.2 j p hp; exact ⟨b, e, k.below hb k.lt⟩⟩
theorem RowsR.setc (h : RowsR w vs ps) {q : Nat} {t : TypeId} {cs : Array Value} (hq : Blk w q t cs) (ht : t ≠ 2) (i : Nat) (u : Value) : RowsR (w.setCell ⟨q, i, none⟩ u) vs ps :=
  ⟨h.1, fun j p hp => by obtain ⟨b, e, k⟩ := h.2 j p hp; exact ⟨b, e, k.far (p := ⟨q, i, none⟩) (fun e => blk_neB hq k ht e.symm) u⟩⟩
theorem RowsR.grown {L n : Nat} {v : Value} {xs : List Value} (h : RowsR w vs ps) (ho : w.ownsRow L 31 1 v n xs) (hg : w.grownBy w' v.ownBlock) : RowsR w' vs ps :=
  ⟨h.1, fun j p hp => by obtain ⟨b, e, k⟩ := h.2 j p hp; exact ⟨b, e, k.grown hg (fun e => own_neK ho k (by decide) e.symm)⟩⟩
theorem RowsR.add (h : RowsR w vs ps) {b i k : Nat} (hb : Blk w b 2 #[.int .i64 (i : Int), .int .i64 (k : Int)]) : RowsR w (vs ++ [.slice (some ⟨b, 0, none⟩) 2 2]) (ps ++ [(i, k)]) := by
  refine ⟨by simp [h.1], fun j p hp => ?_⟩
  rcases Nat.lt_or_ge j ps.length with hj | hj
  · rw [List.getElem?_append_left hj] at hp
    rw [List.getElem?_append_left (by rw [h.1]; exact hj)]
    exact h.2 j p hp
  · rw [List.getElem?_append_right hj] at hp
    rw [List.getElem?_append_right (by rw [h.1]; exact hj), h.1]
    have : j - ps.length = 0 := by
      have := (List.getElem?_eq_some_iff.1 hp).1
      simp at this; omega
    rw [this] at hp ⊢
    simp at hp
    subst hp
    exact ⟨b, rfl, hb⟩
theorem RowsR.cut {u : Value} {i k : Nat} (h : RowsR w (vs ++ [u]) (ps ++ [(i, k)])) : RowsR w vs ps := by
  have hl : vs.length = ps.length := by have := h.1; simp at this; exact this
  refine ⟨hl, fun j p hp => ?_⟩
  have hj := (List.getElem?_eq_some_iff.1 hp).1
  have := h.2 j p (by rw [List.getElem?_append_left hj]; exact hp)
  rw [List.getElem?_append_left (by omega)] at this
  exact this
end
/-- the state between two steps -/
structure QM (g gu L n uc : Nat) (V1 : Value) (w0 w : World) (cg : Array Value) (us : List Bool) (x1 : Value) (vs : List Value) (ps : List (Nat × Nat)) (v3 : Value) (ws : List Value) (bs : List (Nat × Nat)) : Prop where
  k : Blk w g 63 cg
  u : Blk w gu 4 (bvs us)
  o1 : w.ownsRow L 31 1 x1 ps.length vs
  o3 : w.ownsRow L 31 1 v3 bs.length ws
  r1 : RowsR w vs ps
  r3 : RowsR w ws bs
  d13 : ∀ k, x1.ownBlock = some k → v3.ownBlock ≠ some k
  f : Frm w0 w g V1 (.slice (some ⟨gu, 0, none⟩) n uc)
  n1 : Nw w0 V1 x1
section
variable {g gu L n uc : Nat} {V1 : Value} {w0 w w' : World} {cg : Array Value} {us : List Bool} {x1 : Value} {vs : List Value} {ps : List (Nat × Nat)} {v3 : Value} {ws : List Value} {bs : List (Nat × Nat)}
theorem QM.neu (h : QM g gu L n uc V1 w0 w cg us x1 vs ps v3 ws bs) : g ≠ gu := blk_neB h.k h.u (by decide)
theorem QM.keep (h : QM g gu L n uc V1 w0 w cg us x1 vs ps v3 ws bs) (hb : Below w.heap.size w w') : QM g gu L n uc V1 w0 w' cg us x1 vs ps v3 ws bs :=
  ⟨h.k.below hb h.k.lt, h.u.below hb h.u.lt, own_belowB h.o1 hb (fun q hq => (h.o1.lt q hq).2), own_belowB h.o3 hb (fun q hq => (h.o3.lt q hq).2), h.r1.keep hb, h.r3.keep hb, h.d13, h.f.more (Frm.of_below hb g _ _), h.n1⟩
theorem QM.mark (h : QM g gu L n uc V1 w0 w cg us x1 vs ps v3 ws bs) (i : Nat) (b : Bool) : QM g gu L n uc V1 w0 (w.setCell ⟨gu, i, none⟩ (.bool b)) cg (us.set i b) x1 vs ps v3 ws bs :=
  ⟨h.k.far (p := ⟨gu, i, none⟩) h.neu _, by rw [← bvs_set]; exact h.u.set_ i _, own_farK h.o1 (own_neK h.o1 h.u (by decide)) _, own_farK h.o3 (own_neK h.o3 h.u (by decide)) _, h.r1.setc h.u (by decide) i _, h.r3.setc h.u (by decide) i _, h.d13, h.f.more (Frm.setu w g i gu n uc _ _), h.n1⟩
theorem QM.store (h : QM g gu L n uc V1 w0 w cg us x1 vs ps v3 ws bs) (i : Nat) (v : Value) : QM g gu L n uc V1 w0 (w.setCell ⟨g, i, none⟩ v) (cg.setIfInBounds i v) us x1 vs ps v3 ws bs :=
  ⟨h.k.set_ i v, h.u.far (p := ⟨g, i, none⟩) (fun e => h.neu e.symm) v, own_farK h.o1 (own_neK h.o1 h.k (by decide)) v, own_farK h.o3 (own_neK h.o3 h.k (by decide)) v, h.r1.setc h.k (by decide) i v, h.r3.setc h.k (by decide) i v, h.d13, h.f.more (Frm.setg w g i v _ _), h.n1⟩
theorem own_keptH {v u : Value} {m : Nat} {xs : List Value} (h : w.ownsRow L 31 1 u m xs) (hg : w.grownBy w' v.ownBlock) (hs : ∀ k, v.ownBlock = some k → u.ownBlock ≠ some k) : w'.ownsRow L 31 1 u m xs := by
  refine h.kept hg ?_
  cases hv : u.ownBlock with
  | none => exact .inl rfl
  | some k => exact .inr fun e => hs k e.symm hv
theorem QM.app (h : QM g gu L n uc V1 w0 w cg us x1 vs ps v3 ws bs) {q cap m i k b : Nat} (hm : m = ps.length + 1) (hb : Blk w b 2 #[.int .i64 (i : Int), .int .i64 (k : Int)]) (ho : w'.ownsRow L 31 1 (.slice (some ⟨q, 0, none⟩) m cap) m (vs ++ [.slice (some ⟨b, 0, none⟩) 2 2])) (hg : w.grownBy w' x1.ownBlock) (hl : x1.ownBlock = some q ∨ q = w.heap.size) :
    QM g gu L n uc V1 w0 w' cg us (.slice (some ⟨q, 0, none⟩) m cap) (vs ++ [.slice (some ⟨b, 0, none⟩) 2 2]) (ps ++ [(i, k)]) v3 ws bs := by
  have hbq : Value.ownBlock (.slice (some ⟨q, 0, none⟩) m cap) = some q := rfl
  have hpl : (ps ++ [(i, k)]).length = m := by rw [hm]; simp
  refine ⟨h.k.grown hg (fun e => own_neK h.o1 h.k (by decide) e.symm), h.u.grown hg (fun e => own_neK h.o1 h.u (by decide) e.symm), by rw [hpl]; exact ho, own_keptH h.o3 hg h.d13, (h.r1.add hb).grown h.o1 hg, h.r3.grown h.o1 hg, ?_, ?_, ?_⟩
  · intro k hk e
    rw [hbq] at hk
    injection hk with hk
    subst hk
    rcases hl with hl | hl
    · exact h.d13 q hl e
    · have := (h.o3.lt q e).2; omega
  · exact h.f.trans (v1' := x1) (v2' := .slice (some ⟨gu, 0, none⟩) n uc) ⟨hg.os, hg.tape, hg.output, hg.size, fun k hk h0 h1 h2 => hg.block k hk (fun e => h1 e.symm)⟩ h.n1 (Nw.refl _ _)
  · refine h.n1.trans (w' := w) ?_ h.f.size
    rcases hl with hl | hl
    · exact .inl (by rw [hbq, hl])
    · exact .inr fun k hk => by rw [hbq] at hk; injection hk with hk; omega
theorem QM.cut {A : Option Addr} {p m c i k : Nat} {u : Value} (h : QM g gu L n uc V1 w0 w cg us (.slice A m c) (vs ++ [u]) (ps ++ [(i, k)]) v3 ws bs) (hm : m = p + 1) (hp : ps.length = p) : QM g gu L n uc V1 w0 w cg us (.slice A p c) vs ps v3 ws bs := by
  subst hm
  have e := ob_len A p (p + 1) c
  refine ⟨h.k, h.u, ?_, h.o3, h.r1.cut, h.r3, fun k hk => h.d13 k (by rw [← e]; exact hk), h.f, ?_⟩
  · have o := h.o1
    rw [List.length_append, List.length_singleton, hp] at o
    rw [hp]
    exact own_cutP rfl o
  · rcases h.n1 with q | q
    · exact .inl (by rw [e]; exact q)
    · exact .inr fun k hk => q k (by rw [← e]; exact hk)
/-- the best that is found: its headers in a row of their own -/
theorem QM.best (h : QM g gu L n uc V1 w0 w cg us x1 vs ps v3 ws bs) {v : Value} {L' : Nat} (ov : w.ownsRow L' 31 1 v ps.length vs) (hL : L ≤ L') (hd : ∀ k, x1.ownBlock = some k → v.ownBlock ≠ some k) : QM g gu L n uc V1 w0 w cg us x1 vs ps v vs ps := by
  refine ⟨h.k, h.u, h.o1, ?_, h.r1, h.r1, hd, h.f, h.n1⟩
  refine ⟨ov.1, ?_⟩
  rcases ov.2 with hn | ⟨q, cap, cur, hv, hb, rest⟩
  · exact .inl hn
  · exact .inr ⟨q, cap, cur, hv, by omega, rest⟩
end
/-- what the reference's counts say of the plain search's -/
structure CntS (st : PSt) (least nodes budget : Int) : Prop where
  n : nodes + (st.left : Int) = budget
  n0 : 0 ≤ nodes
  b : budget ≤ 2000000000
  y : st.solved = true → least = st.least ∧ 0 ≤ least
  no : st.solved = false → least = -1
end Go.Proofs.Ytoodlpgamlelaaa
