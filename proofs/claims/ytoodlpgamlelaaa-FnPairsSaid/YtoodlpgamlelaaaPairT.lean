/- Pairs of planks: the reference's search where all have a partner. -/
import Derived.Test.YtoodlpgamlelaaaPairQ
import Derived.StillTailTactics
set_option linter.unusedVariables false
set_option linter.unusedSimpArgs false
namespace Go.Proofs.Ytoodlpgamlelaaa
open Go.RowKit

/-- what the reference's search answers -/
def PNextE (g gu L : Nat) (LA : Option Addr) (n lc uc : Nat) (budget : Int) (w : World) (us : List Bool) (ps : List (Nat × Nat)) (V1 : Value) (r : Option PSt) (e : Ending) (w' : World) : Prop :=
  e = .returned (.bool r.isNone) ∧ Frm w w' g V1 (.slice (some ⟨gu, 0, none⟩) n uc) ∧ ∀ st', r = some st' → ∃ (x1 v3 : Value) (vs ws : List Value) (least nodes : Int),
    QM g gu L n uc V1 w w' #[.slice LA n lc, .slice (some ⟨gu, 0, none⟩) n uc, x1, v3, .int .i64 least, .int .i64 nodes, .int .i64 budget] us x1 vs ps v3 ws st'.best ∧ CntS st' least nodes budget
/-- what the reference's search is told -/
structure PairN (ds : List PlankD) (g gu L B : Nat) (LA : Option Addr) (n lc uc d : Nat) (budget : Int) (w : World) (us : List Bool) (ps : List (Nat × Nat)) (sum : Int) (st : PSt) (x1 v3 : Value) (vs ws : List Value) (least nodes : Int) : Prop where
  q : QM g gu L n uc x1 w w #[.slice LA n lc, .slice (some ⟨gu, 0, none⟩) n uc, x1, v3, .int .i64 least, .int .i64 nodes, .int .i64 budget] us x1 vs ps v3 ws st.best
  c : CntS st least nodes budget
  ul : us.length = n
  un : unus us = 2 * d
  pd : ps.length + d ≤ 8
  s0 : 0 ≤ sum
  s1 : sum ≤ 200000000000 * ps.length
  rd : Rd w B 6 LA n (ds.flatMap plankF)
  bg : B ≤ g
  bu : B ≤ gu
  bL : B ≤ L
  lw : L ≤ w.heap.size
theorem CntS.step {st : PSt} {least nodes budget : Int} (h : CntS st least nodes budget) (h0 : ¬ st.left = 0) : CntS ⟨st.left - 1, st.best, st.least, st.solved⟩ least (nodes + 1) budget := ⟨by have := h.n; simp only; omega, by have := h.n0; omega, h.b, h.y, h.no⟩
theorem CntS.found {least nodes budget sum l0 : Int} {l : Nat} {b b0 : List (Nat × Nat)} {s0' : Bool} (h : CntS ⟨l, b0, l0, s0'⟩ least nodes budget) (s0 : 0 ≤ sum) : CntS ⟨l, b, sum, true⟩ sum nodes budget := ⟨h.n, h.n0, h.b, fun _ => ⟨rfl, s0⟩, fun e => by cases e⟩
set_option maxRecDepth 100000 in
/-- append(v, zs...) of headers to an empty row of the call's own -/
theorem appNH {w : World} {ops : Array Oper} {rest : List Oper} {o : Oper} {a : Act} {Q : Exit → Act → World → Prop} (hgd : o.guard = none) (s x : Operand)
    (ho : o.op = .call { callee := .builtin .append, args := #[s, x], argTypes := #[26, 26] }) (L : Nat) (v : Value) (b ofs n c B : Nat) (vs : List Value) (hone : ∀ u ∈ vs, u.oneCell' = true) (hs : a.eval s = v) (hown : w.ownsRow L 31 1 v 0 [])
    (hx : a.eval x = .slice (some ⟨b, ofs, none⟩) n c) (hr : Rd w B 1 (some ⟨b, ofs, none⟩) n vs) (hL : L ≤ w.heap.size) (hn : n ≤ 1000000)
    (h : ∀ v' w', w'.ownsRow L 31 1 v' n vs → w.grownBy w' v.ownBlock → wpList Try.prog ops Q rest (a.put o.dst v') w') :
    wpList Try.prog ops Q (o :: rest) a w := by
  obtain ⟨i0, hi, hz0, hz1, hz2⟩ := info_parts info27
  refine wpList_append_own _ hgd s x 26 ho L 31 i0 (.slice none 0 0) 1 24 Try.underlying26 hi hz0 hz1 hz2 rfl (by decide) v 0 [] hs hown ⟨b, ofs, none⟩ n c vs hx hr.1 ?_ hone ?_ ?_ hL ?_
  · intro j u hu
    have hj : 0 < n := by
      have := (List.getElem?_eq_some_iff.1 hu).1
      have := hr.1
      omega
    obtain ⟨b', o', e, hlt, hc⟩ := hr.2 hj
    injection e with e
    injection e with e1 e2
    subst e1 e2
    rw [show (⟨b, ofs, none⟩ : Addr).add j = ⟨b, ofs + j, none⟩ by unfold Addr.add; split <;> simp_all]
    exact hc j u hu
  · unfold maxLen; omega
  · omega
  · intro v' w' h1 h2 _
    exact h v' w' (by simpa using h1) h2
theorem RowsR.one {w : World} {vs : List Value} {ps : List (Nat × Nat)} (h : RowsR w vs ps) : ∀ u ∈ vs, u.oneCell' = true := by
  intro u hu
  obtain ⟨j, hj, e⟩ := List.mem_iff_getElem.1 hu
  obtain ⟨b, e2, _⟩ := h.2 j (ps[j]'(by rw [← h.1]; exact hj)) (List.getElem?_eq_getElem _)
  rw [List.getElem?_eq_getElem hj, e] at e2
  injection e2 with e2
  rw [e2]; rfl
section
variable (ds : List PlankD) (g gu L B : Nat) (LA : Option Addr) (n lc uc : Nat) (budget : Int)
set_option maxRecDepth 100000 in
set_option maxHeartbeats 8000000 in
theorem pnext_z (n16 : n ≤ 16) (w : World) (us : List Bool) (ps : List (Nat × Nat)) (sum : Int) (st : PSt) (x1 v3 : Value) (vs ws : List Value) (least nodes : Int) (h : PairN ds g gu L B LA n lc uc 0 budget w us ps sum st x1 v3 vs ws least nodes) :
    Calls Try.prog 29 #[.pointer (some ⟨g, 0, none⟩), .int .i64 sum] w (PNextE g gu L LA n lc uc budget w us ps x1 (psrch (gpL ds) 0 us ps sum st)) := by
  have Q0 := h.q
  have C := Lib.hid h.c
  have cn := h.c.n
  have cn0 := h.c.n0
  have cb := h.c.b
  have UA := Lib.hid (unus_zero h.un)
  have UL := Lib.hid h.ul
  have sb : 0 ≤ sum ∧ sum ≤ 1600000000000 := by have := h.s0; have := h.s1; have := h.pd; omega
  have pn : ps.length ≤ 8 := by have := h.pd; omega
  have LL := Lib.hid h.lw
  clear h
  obtain ⟨A1, c1, rfl⟩ := own_valP Q0.o1
  obtain ⟨p, hp⟩ : ∃ p, p = ps.length := ⟨_, rfl⟩
  have HP := Lib.hid hp
  rw [← hp] at pn
  have hc := Q0.k.cell
  have hf := Q0.k.frozen
  have Q1 := Q0.store 5 (.int .i64 (nodes + 1))
  simp at Q1
  have Q1 := Lib.hid Q1
  rw [← hp] at hc Q1 ⊢
  clear Q0 hp
  have wn : IntKind.i64.wrap (nodes + 1) = nodes + 1 := IntWalk.i64_in _ (by omega)
  go_enter Try.func29, Try.ntmps29
  go_upto_region 2 with fail
  generalize w.setCell ⟨g, 5, none⟩ (.int .i64 (nodes + 1)) = W at Q1 ⊢
  clear hc hf wn
  have C0 := bel_cell Q1.out.k Q1.out.k.lt
  by_cases l0 : st.left = 0
  · have HE : Hid (psrch (gpL ds) 0 us ps sum st = none) := Lib.hid (by rw [psrch, if_pos l0])
    have dg : decide (budget < nodes + 1) = true := decide_eq_true (by omega)
    (refine wp_region_bel W.heap.size W (Below.refl _ _) (by kernel_rfl) (by kernel_rfl) ?_; (repeat (go_big_quiet_step ((first | fail)))); refine wpQuiet_nil ?_; rintro w2 ⟨⟨_, hb2⟩, rfl⟩)
    have Q2 := Lib.hid (Q1.out.keep hb2)
    clear C0 Q1 hb2
    go_wp2_with fail
    go_ret
    exact ⟨by rw [HE.out]; rfl, Q2.out.f, fun st' e => by rw [HE.out] at e; cases e⟩
  · have dg : decide (budget < nodes + 1) = false := decide_eq_false (by omega)
    have C1 := Lib.hid (C.out.step l0)
    have L0 := Lib.hid l0
    clear l0
    (refine wp_region_bel W.heap.size W (Below.refl _ _) (by kernel_rfl) (by kernel_rfl) ?_; (repeat (go_big_quiet_step ((first | fail)))); refine wpQuiet_nil ?_; rintro w2 ⟨⟨_, hb2⟩, rfl⟩)
    have Q2 := Lib.hid (Q1.out.keep hb2)
    clear C0 Q1 hb2 dg C
    have hc := Q2.out.k.cell
    go_wp2_with fail
    go_loop [5] (fun kv => ∃ k : Nat, k ≤ n ∧ kv = .int .i64 k) (fun kv => n - (intOf kv).toNat)
    case atStart => exact ⟨0, Nat.zero_le _, rfl⟩
    case round =>
      obtain ⟨k, hk, rfl⟩ := hrel
      by_cases hlt : k < n
      · have hu : w2.cell? ⟨gu, k, none⟩ = some (.bool true) := by
          rw [Q2.out.u.cell k]
          exact bvs_get (frst_true (by rw [UA.out, UL.out]; exact hlt))
        go_wp2_with fail
        go_round
        case rel => exact ⟨k + 1, by omega, by go_num⟩
        case measure => simp [intOf]; omega
      · obtain rfl : n = k := by omega
        obtain ⟨left, best, least0, solved⟩ := st
        simp only at *
        cases hso : solved
        · have HE : Hid (psrch (gpL ds) 0 us ps sum ⟨left, best, least0, solved⟩ = some ⟨left - 1, ps, sum, true⟩) := Lib.hid (by rw [psrch, if_neg L0.out, leafP, if_pos (.inl hso)])
          have lm : least = -1 := C1.out.no hso
          subst lm hso
          go_upto_region 9 with fail
          have q1 := Q2.out.k.cell 4
          have f1 := Q2.out.k.frozen 4
          have Q3 := Q2.out.store 4 (.int .i64 sum)
          simp at q1 Q3
          have Q3 := Lib.hid Q3
          clear hc
          go_upto_region 10 with fail
          clear Q2 q1 f1
          generalize w2.setCell ⟨g, 4, none⟩ (.int .i64 sum) = w3 at Q3 ⊢
          have BA := (Below.refl w3.heap.size w3).alloc (Nat.le_refl _) (.cells #[] 31)
          have E4 := Lib.hid (World.ownsRow_lit (base := w3.heap.size) (e := 31) (size := 1) w3 #[] 0 (Nat.le_refl _) (Nat.zero_le _) (by simp))
          have Q4 := Lib.hid (Q3.out.keep BA)
          have S4 : w3.heap.size ≤ (w3.alloc (.cells #[] 31)).heap.size := BA.size
          have LW3 := Lib.hid (Nat.le_trans LL.out Q3.out.f.size)
          have O3 := Lib.hid (fun k (hk : Value.ownBlock (.slice A1 p c1) = some k) => (Q3.out.o1.lt k hk).2)
          have hc := Q4.out.k.cell
          have hf := Q4.out.k.frozen
          have BAH := Lib.hid BA
          clear BA
          cases A1 with
          | none =>
            obtain rfl : p = 0 := by
              rcases Q4.out.o1.2 with ⟨_, h0⟩ | ⟨g', cap, cur, hv, _⟩
              · rw [HP.out]; exact h0
              · injection hv with hA; cases hA
            have V0 : Hid (vs = []) := Lib.hid (List.length_eq_zero_iff.1 (by have := Q4.out.r1.1; rw [this, ← HP.out]))
            have PS0 : Hid (ps = []) := Lib.hid (List.length_eq_zero_iff.1 (by rw [← HP.out]))
            have Q5 := (Q4.out.best (v := .slice (some ⟨w3.heap.size, 0, none⟩) 0 0) (L' := w3.heap.size) (by rw [V0.out, PS0.out]; exact E4.out) LW3.out (fun k hk e => by simp [Value.ownBlock] at hk)).store 3 (.slice (some ⟨w3.heap.size, 0, none⟩) 0 0)
            simp at Q5
            have Q5 := Lib.hid Q5
            clear Q4 E4 O3
            go_wp2_with fail
            go_ret
            exact ⟨by rw [HE.out]; rfl, Q5.out.f, fun st' e => by
              rw [HE.out] at e
              injection e with e
              subst e
              exact ⟨_, _, vs, vs, sum, nodes + 1, Q5.out, C1.out.found sb.1⟩⟩
          | some a =>
            have RO : Rd (w3.alloc (.cells #[] 31)) (w3.alloc (.cells #[] 31)).heap.size 1 (some a) p vs := by have o := Q4.out.o1; rw [← HP.out] at o; exact Rd.own o
            obtain ⟨ab, ao, aq⟩ := a
            have as0 : aq = none := by
              rcases Q4.out.o1.2 with ⟨hv, _⟩ | ⟨g', cap, cur, hv, _⟩
              · cases hv
              · injection hv with hA
                injection hA with hA
                injection hA
            subst as0
            have RO := Lib.hid RO
            have ON := Q4.out.r1.one
            go_wp2_with (at_builtin; refine appNH rfl (.tmp 66) (.tmp 70) rfl w3.heap.size (.slice (some ⟨w3.heap.size, 0, none⟩) 0 0) ab ao p c1 _ vs ON rfl E4.out rfl RO.out S4 (by omega) ?_; intro v5 w5 o5 g5; obtain ⟨A5, c5, rfl⟩ := own_valP o5; have G5 := Lib.hid g5; have O5 := Lib.hid o5; have b5 : Hid (Below w3.heap.size (w3.alloc (.cells #[] 31)) w5) := Lib.hid ((Below.refl w3.heap.size _).grown g5 S4 (fun k hk => (E4.out.lt k hk).1)); have K5 := Q4.out.k.grown g5 (fun e => own_neK E4.out Q4.out.k (by decide) e.symm); have hc := K5.cell; have hf := K5.frozen; clear K5 o5 g5)
            have Q5 := Q3.out.keep (BAH.out.trans b5.out)
            have D5 : ∀ k, Value.ownBlock (.slice (some ⟨ab, ao, none⟩) p c1) = some k → Value.ownBlock (.slice A5 p c5) ≠ some k := fun k hk e => by
              have a := O3.out k hk
              have b := (O5.out.lt k e).1
              omega
            have Q6 := (Q5.best (v := .slice A5 p c5) (L' := w3.heap.size) (by rw [← HP.out]; exact O5.out) LW3.out D5).store 3 (.slice A5 p c5)
            simp at Q6
            have Q6 := Lib.hid Q6
            clear Q5 D5 Q4 Q3 E4 O3
            go_wp2_with fail
            go_ret
            exact ⟨by rw [HE.out]; rfl, Q6.out.f, fun st' e => by
              rw [HE.out] at e
              injection e with e
              subst e
              exact ⟨_, _, vs, vs, sum, nodes + 1, Q6.out, C1.out.found sb.1⟩⟩
        · have ly := C1.out.y hso
          have dl : decide (least < 0) = false := decide_eq_false (by have := ly.2; omega)
          have LY := Lib.hid ly.1
          by_cases hsl : sum < least
          · have HE : Hid (psrch (gpL ds) 0 us ps sum ⟨left, best, least0, solved⟩ = some ⟨left - 1, ps, sum, true⟩) := Lib.hid (by rw [psrch, if_neg L0.out, leafP, if_pos (.inr (by show sum < least0; have := LY.out; simp only at this; omega))])
            have dsl : decide (sum < least) = true := decide_eq_true hsl
            clear ly
            subst hso
            go_upto_region 9 with fail
            have q1 := Q2.out.k.cell 4
            have f1 := Q2.out.k.frozen 4
            have Q3 := Q2.out.store 4 (.int .i64 sum)
            simp at q1 Q3
            have Q3 := Lib.hid Q3
            clear hc
            go_upto_region 10 with fail
            clear Q2 q1 f1
            generalize w2.setCell ⟨g, 4, none⟩ (.int .i64 sum) = w3 at Q3 ⊢
            have BA := (Below.refl w3.heap.size w3).alloc (Nat.le_refl _) (.cells #[] 31)
            have E4 := Lib.hid (World.ownsRow_lit (base := w3.heap.size) (e := 31) (size := 1) w3 #[] 0 (Nat.le_refl _) (Nat.zero_le _) (by simp))
            have Q4 := Lib.hid (Q3.out.keep BA)
            have S4 : w3.heap.size ≤ (w3.alloc (.cells #[] 31)).heap.size := BA.size
            have LW3 := Lib.hid (Nat.le_trans LL.out Q3.out.f.size)
            have O3 := Lib.hid (fun k (hk : Value.ownBlock (.slice A1 p c1) = some k) => (Q3.out.o1.lt k hk).2)
            have hc := Q4.out.k.cell
            have hf := Q4.out.k.frozen
            have BAH := Lib.hid BA
            clear BA
            cases A1 with
            | none =>
              obtain rfl : p = 0 := by
                rcases Q4.out.o1.2 with ⟨_, h0⟩ | ⟨g', cap, cur, hv, _⟩
                · rw [HP.out]; exact h0
                · injection hv with hA; cases hA
              have V0 : Hid (vs = []) := Lib.hid (List.length_eq_zero_iff.1 (by have := Q4.out.r1.1; rw [this, ← HP.out]))
              have PS0 : Hid (ps = []) := Lib.hid (List.length_eq_zero_iff.1 (by rw [← HP.out]))
              have Q5 := (Q4.out.best (v := .slice (some ⟨w3.heap.size, 0, none⟩) 0 0) (L' := w3.heap.size) (by rw [V0.out, PS0.out]; exact E4.out) LW3.out (fun k hk e => by simp [Value.ownBlock] at hk)).store 3 (.slice (some ⟨w3.heap.size, 0, none⟩) 0 0)
              simp at Q5
              have Q5 := Lib.hid Q5
              clear Q4 E4 O3
              go_wp2_with fail
              go_ret
              exact ⟨by rw [HE.out]; rfl, Q5.out.f, fun st' e => by
                rw [HE.out] at e
                injection e with e
                subst e
                exact ⟨_, _, vs, vs, sum, nodes + 1, Q5.out, C1.out.found sb.1⟩⟩
            | some a =>
              have RO : Rd (w3.alloc (.cells #[] 31)) (w3.alloc (.cells #[] 31)).heap.size 1 (some a) p vs := by have o := Q4.out.o1; rw [← HP.out] at o; exact Rd.own o
              obtain ⟨ab, ao, aq⟩ := a
              have as0 : aq = none := by
                rcases Q4.out.o1.2 with ⟨hv, _⟩ | ⟨g', cap, cur, hv, _⟩
                · cases hv
                · injection hv with hA
                  injection hA with hA
                  injection hA
              subst as0
              have RO := Lib.hid RO
              have ON := Q4.out.r1.one
              go_wp2_with (at_builtin; refine appNH rfl (.tmp 66) (.tmp 70) rfl w3.heap.size (.slice (some ⟨w3.heap.size, 0, none⟩) 0 0) ab ao p c1 _ vs ON rfl E4.out rfl RO.out S4 (by omega) ?_; intro v5 w5 o5 g5; obtain ⟨A5, c5, rfl⟩ := own_valP o5; have G5 := Lib.hid g5; have O5 := Lib.hid o5; have b5 : Hid (Below w3.heap.size (w3.alloc (.cells #[] 31)) w5) := Lib.hid ((Below.refl w3.heap.size _).grown g5 S4 (fun k hk => (E4.out.lt k hk).1)); have K5 := Q4.out.k.grown g5 (fun e => own_neK E4.out Q4.out.k (by decide) e.symm); have hc := K5.cell; have hf := K5.frozen; clear K5 o5 g5)
              have Q5 := Q3.out.keep (BAH.out.trans b5.out)
              have D5 : ∀ k, Value.ownBlock (.slice (some ⟨ab, ao, none⟩) p c1) = some k → Value.ownBlock (.slice A5 p c5) ≠ some k := fun k hk e => by
                have a := O3.out k hk
                have b := (O5.out.lt k e).1
                omega
              have Q6 := (Q5.best (v := .slice A5 p c5) (L' := w3.heap.size) (by rw [← HP.out]; exact O5.out) LW3.out D5).store 3 (.slice A5 p c5)
              simp at Q6
              have Q6 := Lib.hid Q6
              clear Q5 D5 Q4 Q3 E4 O3
              go_wp2_with fail
              go_ret
              exact ⟨by rw [HE.out]; rfl, Q6.out.f, fun st' e => by
                rw [HE.out] at e
                injection e with e
                subst e
                exact ⟨_, _, vs, vs, sum, nodes + 1, Q6.out, C1.out.found sb.1⟩⟩
          · have HE : Hid (psrch (gpL ds) 0 us ps sum ⟨left, best, least0, solved⟩ = some ⟨left - 1, best, least0, solved⟩) := Lib.hid (by rw [psrch, if_neg L0.out, leafP, if_neg (by rw [hso]; simp; have := LY.out; simp only at this; omega)])
            have dsl : decide (sum < least) = false := decide_eq_false hsl
            clear ly
            subst hso
            go_wp2_with fail
            go_ret
            exact ⟨by rw [HE.out]; rfl, Q2.out.f, fun st' e => by
              rw [HE.out] at e
              injection e with e
              subst e
              exact ⟨_, _, vs, ws, least, nodes + 1, Q2.out, C1.out⟩⟩
end
end Go.Proofs.Ytoodlpgamlelaaa
