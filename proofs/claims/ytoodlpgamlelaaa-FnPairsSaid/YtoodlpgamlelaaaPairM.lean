/- Pairs of planks: the state between two steps of the program's search. -/
import Derived.Test.YtoodlpgamlelaaaPairZ
set_option linter.unusedVariables false
set_option linter.unusedSimpArgs false
namespace Go.Proofs.Ytoodlpgamlelaaa
open Go.RowKit

theorem lpP_step {ok : Nat → Bool} {f : Nat → PSt → Option PSt} {n k : Nat} {st : PSt} (hk : k < n) : lpP ok f n (n - k) st = if ok k = true then (match f k st with | none => none | some st' => lpP ok f n (n - (k + 1)) st') else lpP ok f n (n - (k + 1)) st := by
  obtain ⟨m, hm⟩ : ∃ m, n - k = m + 1 := ⟨n - k - 1, by omega⟩
  rw [hm, lpP, show n - (m + 1) = k by omega, show n - (k + 1) = m by omega]
  by_cases e : ok k = true
  · rw [if_pos e, if_pos e]
    cases f k st <;> rfl
  · rw [if_neg e, if_neg e]
theorem set_back {us : List Bool} {i k : Nat} (hi : us[i]? = some false) (hk : us[k]? = some false) (hne : i ≠ k) : ((((us.set i true).set k true).set i false).set k false) = us := by
  apply List.ext_getElem?
  intro j
  by_cases e1 : k = j
  · subst e1
    have hl := (List.getElem?_eq_some_iff.1 hk).1
    rw [List.getElem?_set_self (by simp; exact hl), hk]
  · rw [List.getElem?_set_ne e1]
    by_cases e2 : i = j
    · subst e2
      have hl := (List.getElem?_eq_some_iff.1 hi).1
      rw [List.getElem?_set_self (by simp; exact hl), hi]
    · rw [List.getElem?_set_ne e2, List.getElem?_set_ne e1, List.getElem?_set_ne e2]
/-- the state between two steps -/
structure PM (g gu L n uc : Nat) (V1 : Value) (w0 w : World) (cg : Array Value) (us : List Bool) (x1 : Value) (ps : List (Nat × Nat)) (v3 : Value) (bs : List (Nat × Nat)) : Prop where
  k : Blk w g 51 cg
  u : Blk w gu 4 (bvs us)
  o1 : w.ownsRow L 53 2 x1 ps.length (pfl ps)
  o3 : w.ownsRow L 53 2 v3 bs.length (pfl bs)
  d13 : ∀ k, x1.ownBlock = some k → v3.ownBlock ≠ some k
  f : Frm w0 w g V1 (.slice (some ⟨gu, 0, none⟩) n uc)
  n1 : Nw w0 V1 x1
section
variable {g gu L n lc uc : Nat} {LA : Option Addr} {V1 : Value} {w0 w w' : World} {cg : Array Value} {us : List Bool} {x1 : Value} {ps : List (Nat × Nat)} {v3 : Value} {bs : List (Nat × Nat)}
theorem PM.of {prs : List (Nat × Nat)} {sum : Int} {st : PSt} (h : PAt g gu L LA n lc uc w us prs sum st x1 v3) (f : Frm w0 w g V1 (.slice (some ⟨gu, 0, none⟩) n uc)) (n1 : Nw w0 V1 x1) :
    PM g gu L n uc V1 w0 w #[.slice LA n lc, .slice (some ⟨gu, 0, none⟩) n uc, x1, .int .i64 sum, .int .i64 (st.left : Int), v3, .int .i64 st.least, .bool st.solved] us x1 prs v3 st.best := ⟨h.k, h.u, h.o1, h.o3, h.d13, f, n1⟩
theorem PM.at_ {prs : List (Nat × Nat)} {sum : Int} {st : PSt} (h : PM g gu L n uc V1 w0 w #[.slice LA n lc, .slice (some ⟨gu, 0, none⟩) n uc, x1, .int .i64 sum, .int .i64 (st.left : Int), v3, .int .i64 st.least, .bool st.solved] us x1 prs v3 st.best) : PAt g gu L LA n lc uc w us prs sum st x1 v3 := ⟨h.k, h.u, h.o1, h.o3, h.d13⟩
theorem PM.neu (h : PM g gu L n uc V1 w0 w cg us x1 ps v3 bs) : g ≠ gu := blk_neB h.k h.u (by decide)
theorem PM.keep (h : PM g gu L n uc V1 w0 w cg us x1 ps v3 bs) (hb : Below w.heap.size w w') : PM g gu L n uc V1 w0 w' cg us x1 ps v3 bs :=
  ⟨h.k.below hb h.k.lt, h.u.below hb h.u.lt, own_belowB h.o1 hb (fun q hq => (h.o1.lt q hq).2), own_belowB h.o3 hb (fun q hq => (h.o3.lt q hq).2), h.d13, h.f.more (Frm.of_below hb g _ _), h.n1⟩
theorem PM.mark (h : PM g gu L n uc V1 w0 w cg us x1 ps v3 bs) (i : Nat) (b : Bool) : PM g gu L n uc V1 w0 (w.setCell ⟨gu, i, none⟩ (.bool b)) cg (us.set i b) x1 ps v3 bs :=
  ⟨h.k.far (p := ⟨gu, i, none⟩) h.neu _, by rw [← bvs_set]; exact h.u.set_ i _, own_farK h.o1 (own_neK h.o1 h.u (by decide)) _, own_farK h.o3 (own_neK h.o3 h.u (by decide)) _, h.d13, h.f.more (Frm.setu w g i gu n uc _ _), h.n1⟩
theorem PM.store (h : PM g gu L n uc V1 w0 w cg us x1 ps v3 bs) (i : Nat) (v : Value) : PM g gu L n uc V1 w0 (w.setCell ⟨g, i, none⟩ v) (cg.setIfInBounds i v) us x1 ps v3 bs :=
  ⟨h.k.set_ i v, h.u.far (p := ⟨g, i, none⟩) (fun e => h.neu e.symm) v, own_farK h.o1 (own_neK h.o1 h.k (by decide)) v, own_farK h.o3 (own_neK h.o3 h.k (by decide)) v, h.d13, h.f.more (Frm.setg w g i v _ _), h.n1⟩
theorem own_keptP {v u : Value} {m : Nat} {xs : List Value} (h : w.ownsRow L 53 2 u m xs) (hg : w.grownBy w' v.ownBlock) (hs : ∀ k, v.ownBlock = some k → u.ownBlock ≠ some k) : w'.ownsRow L 53 2 u m xs := by
  refine h.kept hg ?_
  cases hv : u.ownBlock with
  | none => exact .inl rfl
  | some k => exact .inr fun e => hs k e.symm hv
theorem PM.app (h : PM g gu L n uc V1 w0 w cg us x1 ps v3 bs) {q cap m : Nat} {qs : List (Nat × Nat)} (hm : qs.length = m) (ho : w'.ownsRow L 53 2 (.slice (some ⟨q, 0, none⟩) m cap) m (pfl qs)) (hg : w.grownBy w' x1.ownBlock) (hl : x1.ownBlock = some q ∨ q = w.heap.size) :
    PM g gu L n uc V1 w0 w' cg us (.slice (some ⟨q, 0, none⟩) m cap) qs v3 bs := by
  have hb : Value.ownBlock (.slice (some ⟨q, 0, none⟩) m cap) = some q := rfl
  subst hm
  refine ⟨h.k.grown hg (fun e => own_neK h.o1 h.k (by decide) e.symm), h.u.grown hg (fun e => own_neK h.o1 h.u (by decide) e.symm), ho, own_keptP h.o3 hg h.d13, ?_, ?_, ?_⟩
  · intro k hk e
    rw [hb] at hk
    injection hk with hk
    subst hk
    rcases hl with hl | hl
    · exact h.d13 q hl e
    · have := (h.o3.lt q e).2; omega
  · exact h.f.trans (v1' := x1) (v2' := .slice (some ⟨gu, 0, none⟩) n uc) ⟨hg.os, hg.tape, hg.output, hg.size, fun k hk h0 h1 h2 => hg.block k hk (fun e => h1 e.symm)⟩ h.n1 (Nw.refl _ _)
  · refine h.n1.trans (w' := w) ?_ h.f.size
    rcases hl with hl | hl
    · exact .inl (by rw [hb, hl])
    · exact .inr fun k hk => by rw [hb] at hk; injection hk with hk; omega
theorem PM.cut {A : Option Addr} {p m c i k : Nat} (h : PM g gu L n uc V1 w0 w cg us (.slice A m c) (ps ++ [(i, k)]) v3 bs) (hm : m = p + 1) (hp : ps.length = p) : PM g gu L n uc V1 w0 w cg us (.slice A p c) ps v3 bs := by
  subst hm
  have e := ob_len A p (p + 1) c
  refine ⟨h.k, h.u, ?_, h.o3, fun k hk => h.d13 k (by rw [← e]; exact hk), h.f, ?_⟩
  · have o := h.o1
    rw [pfl_add, List.length_append, List.length_singleton, hp] at o
    rw [hp]
    exact own_cutP rfl o
  · rcases h.n1 with q | q
    · exact .inl (by rw [e]; exact q)
    · exact .inr fun k hk => q k (by rw [← e]; exact hk)
theorem own_capP {w : World} {L n c k : Nat} {t : TypeId} {A : Option Addr} {xs : List Value} (h : w.ownsRow L t k (.slice A n c) n xs) : n ≤ c := by
  rcases h.2 with ⟨_, h0⟩ | ⟨g, cap, cur, hv, _, _, hc, _⟩
  · omega
  · injection hv with _ _ hcap
    omega
/-- a search inside -/
theorem PM.inner {us' : List Bool} {prs : List (Nat × Nat)} {sum : Int} {st : PSt} {y1 y3 : Value} {w2 : World} (h : PM g gu L n uc V1 w0 w cg us x1 ps v3 bs) (ha : PAt g gu L LA n lc uc w2 us' prs sum st y1 y3) (f : Frm w w2 g x1 (.slice (some ⟨gu, 0, none⟩) n uc)) (n1 : Nw w x1 y1) :
    PM g gu L n uc V1 w0 w2 #[.slice LA n lc, .slice (some ⟨gu, 0, none⟩) n uc, y1, .int .i64 sum, .int .i64 (st.left : Int), y3, .int .i64 st.least, .bool st.solved] us' y1 prs y3 st.best :=
  PM.of ha (h.f.trans f h.n1 (Nw.refl _ _)) (h.n1.trans n1 h.f.size)
end
end Go.Proofs.Ytoodlpgamlelaaa
