/- Pairs of planks: what the program's search keeps in memory. -/
import Derived.Test.YtoodlpgamlelaaaPairP
import Derived.Test.YtoodlpgamlelaaaFrm
set_option linter.unusedVariables false
set_option linter.unusedSimpArgs false
namespace Go.Proofs.Ytoodlpgamlelaaa
open Go.RowKit

theorem infoP : (Try.prog.info? 53).map (fun i => (i.zero, i.size, i.bytes)) = some (some (.agg #[.int .i64 0, .int .i64 0]), 2, 16) := by kernel_rfl
def pf (p : Nat × Nat) : List Value := [.int .i64 (p.1 : Int), .int .i64 (p.2 : Int)]
theorem pf_len (p : Nat × Nat) : (pf p).length = 2 := rfl
def pfl (ps : List (Nat × Nat)) : List Value := ps.flatMap pf
theorem pfl_len (ps : List (Nat × Nat)) : (pfl ps).length = ps.length * 2 := flat_len pf_len ps
theorem pfl_add (ps : List (Nat × Nat)) (i k : Nat) : pfl (ps ++ [(i, k)]) = pfl ps ++ [.int .i64 (i : Int), .int .i64 (k : Int)] := by simp [pfl, pf]
theorem pfl_one (ps : List (Nat × Nat)) : ∀ u ∈ pfl ps, u.oneCell' = true := by
  intro u hu
  unfold pfl at hu
  obtain ⟨p, _, hp⟩ := List.mem_flatMap.1 hu
  simp [pf] at hp
  rcases hp with rfl | rfl <;> rfl
/-- a row that is cut by its last -/
theorem own_cutP {w : World} {L n c k : Nat} {A : Option Addr} {t : TypeId} {xs ys : List Value} (hy : ys.length = k) (h : w.ownsRow L t k (.slice A (n + 1) c) (n + 1) (xs ++ ys)) : w.ownsRow L t k (.slice A n c) n xs := by
  have hl : xs.length = n * k := by have := h.1; rw [List.length_append, hy, Nat.add_mul] at this; omega
  refine ⟨hl, ?_⟩
  rcases h.2 with ⟨_, h0⟩ | ⟨g, cap, cur, hv, hL, hg, hc, hm, hs, ht⟩
  · omega
  · injection hv with hA _ hcap
    subst hA hcap
    refine .inr ⟨g, c, cur, rfl, hL, hg, by omega, hm, hs, ?_⟩
    have : (List.take ((n + 1) * k) cur.toList).take (n * k) = (xs ++ ys).take (n * k) := by rw [ht]
    rw [List.take_take, List.take_left' hl, Nat.min_eq_left (Nat.mul_le_mul_right k (Nat.le_succ n))] at this
    exact this
/-- append of one pair, as one step of a region that draws its order -/
theorem stepP {w : World} {o : Oper} {a : Act} {K : Act → World → Prop} {Q : Exit → Act → World → Prop} (s x : Operand)
    (ho : o.op = .call { callee := .builtin .append, args := #[s, x], argTypes := #[49, 49] }) (L : Nat) (v : Value) (n m : Nat) (hm : m = n + 1) (ps : List (Nat × Nat)) (i k : Nat) (hs : a.eval s = v) (hown : w.ownsRow L 53 2 v n (pfl ps))
    (B : Nat) (hx : a.eval x = .slice (some ⟨B, 0, none⟩) 1 1) (hB : Blk w B 53 #[.int .i64 (i : Int), .int .i64 (k : Int)]) (hL : L ≤ w.heap.size) (hn : n ≤ 1000000)
    (h : ∀ q cap w', w'.ownsRow L 53 2 (.slice (some ⟨q, 0, none⟩) m cap) m (pfl (ps ++ [(i, k)])) → w.grownBy w' v.ownBlock → (v.ownBlock = some q ∨ q = w.heap.size) → K (a.put o.dst (.slice (some ⟨q, 0, none⟩) m cap)) w') : o.wp Try.prog a w K Q := by
  subst hm
  obtain ⟨i0, hi, hz0, hz1, hz2⟩ := info_parts infoP
  refine wp_append_lies w s x 49 ho L 53 i0 (.agg #[.int .i64 0, .int .i64 0]) 2 16 Try.underlying49 hi hz0 hz1 hz2 rfl (by decide) v n (pfl ps) hs hown ⟨B, 0, none⟩ 1 1 [.int .i64 (i : Int), .int .i64 (k : Int)] hx rfl ?_ ?_ (by omega) ?_ ?_ hL w.heap.size rfl ?_
  · intro j u hu
    rw [show ((⟨B, 0, none⟩ : Addr).add j) = ⟨B, j, none⟩ by unfold Addr.add; split <;> simp_all]
    rw [hB.cell j]
    simpa using hu
  · intro u hu
    simp at hu
    rcases hu with rfl | rfl <;> rfl
  · unfold maxLen; omega
  · omega
  · intro q cap w' h1 h2 h3 _
    refine h q cap w' ?_ h2 h3
    rw [pfl_add]
    exact h1
def RetP (w : World) (ps : List (Nat × Nat)) (e : Ending) (w' : World) : Prop := ∃ v, e = .returned v ∧ w'.ownsRow w.heap.size 53 2 v ps.length (pfl ps) ∧ Below w.heap.size w w'
set_option maxRecDepth 100000 in
set_option maxHeartbeats 1000000 in
theorem cloneP_any (L n c : Nat) (A : Option Addr) (ps : List (Nat × Nat)) (w : World) (h : w.ownsRow L 53 2 (.slice A n c) n (pfl ps)) (hn : n ≤ 1000) :
    Calls Try.prog 39 #[.slice A n c] w (RetP w ps) := by
  have hl : ps.length = n := by have := h.1; rw [pfl_len] at this; omega
  obtain ⟨cs, hcs, hmk⟩ := make0_run (P := Try.prog) Try.underlying49 infoP n (by omega) (by unfold maxLen; omega)
  have O0 := Lib.hid (World.ownsRow_made (base := w.heap.size) (e := 53) (size := 2) w cs n (Nat.le_refl _) (by unfold maxLen; omega) hcs)
  have b0 := Lib.hid ((Below.refl w.heap.size w).alloc (Nat.le_refl _) (.cells cs 53))
  have hsz : w.heap.size ≤ (w.alloc (.cells cs 53)).heap.size := b0.out.size
  rcases h.2 with ⟨hv, h0⟩ | ⟨g, cap, cur, hv, hL, hg, hc, hm, hs, ht⟩
  · injection hv with hA _ hcap
    subst hA hcap h0
    obtain rfl : ps = [] := List.length_eq_zero_iff.1 hl
    have hmk0 := hmk w
    rw [show ((0 : Nat) : Int) = 0 from rfl] at hmk0
    clear h hcs hmk
    go_enter Try.func39, Try.ntmps39
    go_wp2
    go_ret
    exact ⟨_, rfl, O0.out, b0.out⟩
  · injection hv with hA _ hcap
    subst hA hcap
    have hr := Lib.hid ((Rd.own h).below b0.out)
    subst hl
    clear hcs hg hs ht h
    go_enter Try.func39, Try.ntmps39
    go_wp2_with (at_builtin; obtain ⟨i0, hi, hz0, hz1, hz2⟩ := info_parts infoP; refine wpList_append_own _ rfl (.tmp 5) (.tmp 6) 49 rfl w.heap.size 53 i0 (.agg #[.int .i64 0, .int .i64 0]) 2 16 Try.underlying49 hi hz0 hz1 hz2 rfl (by decide) (.slice (some ⟨w.heap.size, 0, none⟩) 0 ps.length) 0 [] rfl O0.out ⟨g, 0, none⟩ ps.length c (pfl ps) rfl (pfl_len ps) ?_ (pfl_one ps) (by unfold maxLen; omega) (by omega) hsz ?_)
    · intro j u hu
      have hj : 0 < ps.length := by
        have := (List.getElem?_eq_some_iff.1 hu).1
        rw [pfl_len] at this
        omega
      obtain ⟨b', o', e, hlt, hcc⟩ := hr.out.2 hj
      injection e with e
      injection e with e1 e2
      subst e1 e2
      have q := hcc j u hu
      rw [Nat.zero_add] at q
      exact q
    · intro v' w' h1 h2 _
      have B1 := Lib.hid (b0.out.grown h2 hsz (fun k hk => (O0.out.lt k hk).1))
      have O1 : Hid (w'.ownsRow w.heap.size 53 2 v' ps.length (pfl ps)) := Lib.hid (by simpa using h1)
      clear h1 h2
      go_wp2
      go_ret
      exact ⟨v', rfl, O1.out, B1.out⟩
theorem own_emptyP (w : World) (L : Nat) : w.ownsRow L 53 2 (.slice none 0 0) 0 (pfl []) := World.ownsRow_nil w L 53 2
def bvs (us : List Bool) : Array Value := (us.map Value.bool).toArray
theorem bvs_get {us : List Bool} {k : Nat} {b : Bool} (h : us[k]? = some b) : (bvs us)[k]? = some (.bool b) := by simp [bvs, h]
theorem bvs_set (us : List Bool) (k : Nat) (b : Bool) : (bvs us).setIfInBounds k (.bool b) = bvs (us.set k b) := by
  simp [bvs, List.map_set]
section
variable (g gu L : Nat) (LA : Option Addr) (n lc uc : Nat)
/-- what the program's search keeps in memory -/
structure PAt (w : World) (us : List Bool) (prs : List (Nat × Nat)) (sum : Int) (st : PSt) (v1 v3 : Value) : Prop where
  k : Blk w g 51 #[.slice LA n lc, .slice (some ⟨gu, 0, none⟩) n uc, v1, .int .i64 sum, .int .i64 (st.left : Int), v3, .int .i64 st.least, .bool st.solved]
  u : Blk w gu 4 (bvs us)
  o1 : w.ownsRow L 53 2 v1 prs.length (pfl prs)
  o3 : w.ownsRow L 53 2 v3 st.best.length (pfl st.best)
  d13 : ∀ k, v1.ownBlock = some k → v3.ownBlock ≠ some k
/-- what a search answers -/
def PairE (w : World) (us : List Bool) (prs : List (Nat × Nat)) (sum : Int) (v1 : Value) (r : Option PSt) (e : Ending) (w' : World) : Prop :=
  ∃ (st' : PSt) (v1' v3' : Value), e = .returned (.bool r.isSome) ∧ (∀ s2, r = some s2 → st' = s2) ∧ PAt g gu L LA n lc uc w' us prs sum st' v1' v3' ∧ Frm w w' g v1 (.slice (some ⟨gu, 0, none⟩) n uc) ∧ Nw w v1 v1'
end
theorem blk_neB {w : World} {a b : Nat} {t t' : TypeId} {cs cs' : Array Value} (h : Blk w a t cs) (h' : Blk w b t' cs') (ht : t ≠ t') : a ≠ b := by
  intro e
  subst e
  unfold Blk at h h'
  rw [h] at h'
  injection h' with h'
  injection h' with _ h2
  exact ht h2
section
variable {g gu L : Nat} {LA : Option Addr} {n lc uc : Nat} {w w' : World} {us : List Bool} {prs : List (Nat × Nat)} {sum : Int} {st : PSt} {v1 v3 : Value}
theorem PAt.keep (h : PAt g gu L LA n lc uc w us prs sum st v1 v3) (hb : Below w.heap.size w w') : PAt g gu L LA n lc uc w' us prs sum st v1 v3 :=
  ⟨h.k.below hb h.k.lt, h.u.below hb h.u.lt, own_belowB h.o1 hb (fun q hq => (h.o1.lt q hq).2), own_belowB h.o3 hb (fun q hq => (h.o3.lt q hq).2), h.d13⟩
theorem PAt.neu (h : PAt g gu L LA n lc uc w us prs sum st v1 v3) : g ≠ gu := blk_neB h.k h.u (by decide)
/-- a store into the search's own block -/
theorem PAt.setg (h : PAt g gu L LA n lc uc w us prs sum st v1 v3) (i : Nat) (u : Value) :
    Blk (w.setCell ⟨g, i, none⟩ u) g 51 (#[.slice LA n lc, .slice (some ⟨gu, 0, none⟩) n uc, v1, .int .i64 sum, .int .i64 (st.left : Int), v3, .int .i64 st.least, .bool st.solved].setIfInBounds i u) ∧
    Blk (w.setCell ⟨g, i, none⟩ u) gu 4 (bvs us) ∧ (w.setCell ⟨g, i, none⟩ u).ownsRow L 53 2 v1 prs.length (pfl prs) ∧ (w.setCell ⟨g, i, none⟩ u).ownsRow L 53 2 v3 st.best.length (pfl st.best) :=
  ⟨h.k.set_ i u, h.u.far (p := ⟨g, i, none⟩) (fun e => h.neu e.symm) u, own_farK h.o1 (own_neK h.o1 h.k (by decide)) u, own_farK h.o3 (own_neK h.o3 h.k (by decide)) u⟩
/-- a mark -/
theorem PAt.mark (h : PAt g gu L LA n lc uc w us prs sum st v1 v3) (i : Nat) (b : Bool) : PAt g gu L LA n lc uc (w.setCell ⟨gu, i, none⟩ (.bool b)) (us.set i b) prs sum st v1 v3 :=
  ⟨h.k.far (p := ⟨gu, i, none⟩) h.neu _, by rw [← bvs_set]; exact h.u.set_ i _, own_farK h.o1 (own_neK h.o1 h.u (by decide)) _, own_farK h.o3 (own_neK h.o3 h.u (by decide)) _, h.d13⟩
theorem Frm.setu (w : World) (g i gu n uc : Nat) (u v1 : Value) : Frm w (w.setCell ⟨gu, i, none⟩ u) g v1 (.slice (some ⟨gu, 0, none⟩) n uc) :=
  ⟨rfl, rfl, rfl, by simp, fun k _ _ _ h2 => Below.heap_setCell _ _ _ _ (fun e => h2 (by simp [Value.ownBlock, e]))⟩
theorem Frm.belowB {v2 : Value} {B : Nat} (h : Frm w w' g v1 v2) (hg : B ≤ g) (hB : B ≤ w.heap.size) (h1 : ∀ k, v1.ownBlock = some k → B ≤ k) (h2 : ∀ k, v2.ownBlock = some k → B ≤ k) : Below B w w' :=
  ⟨h.os, h.tape, h.output, h.size, fun k hk => h.block k (by omega) (by omega) (fun e => by have := h1 k e; omega) (fun e => by have := h2 k e; omega)⟩
end
end Go.Proofs.Ytoodlpgamlelaaa
