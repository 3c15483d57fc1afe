/- Set-ups of strings: the reference's search, a string at a time. -/
import Derived.Test.YtemkggecempmgaaNextI
set_option linter.unusedVariables false
set_option linter.unusedSimpArgs false
namespace Go.Proofs.Ytemkggecempmgaa
open Go.RowKit

/-- append of one number, as one step of a row of operations -/
theorem listApp1 {w : World} {ops : Array Oper} {rest : List Oper} {o : Oper} {a : Act} {Q : Exit → Act → World → Prop} (hgd : o.guard = none) (s x : Operand)
    (ho : o.op = .call { callee := .builtin .append, args := #[s, x], argTypes := #[29, 29] }) (L : Nat) (v : Value) (n m : Nat) (hm : m = n + 1) (xs : List Int) (z : Int) (hs : a.eval s = v) (hown : w.ownsRow L 2 1 v xs.length (iv xs)) (hx0 : xs.length = n) (B : Nat)
    (hx : a.eval x = .slice (some ⟨B, 0, none⟩) 1 1) (hB : Blk w B 2 #[.int .i64 z]) (hL : L ≤ w.heap.size) (hn : n ≤ 1099511627776)
    (h : ∀ q cap w', w'.ownsRow L 2 1 (.slice (some ⟨q, 0, none⟩) m cap) (xs ++ [z]).length (iv (xs ++ [z])) → w.grownBy w' v.ownBlock → (v.ownBlock = some q ∨ q = w.heap.size) → wpList Try.prog ops Q rest (a.put o.dst (.slice (some ⟨q, 0, none⟩) m cap)) w') : wpList Try.prog ops Q (o :: rest) a w := by
  subst hm
  subst hx0
  obtain ⟨i0, hi, hz0, hz1, hz2⟩ := info_parts info64
  refine wpList_append_lies w hgd s x 29 ho L 2 i0 (.int .i64 0) 1 8 Try.underlying29 hi hz0 hz1 hz2 rfl (by decide) v xs.length (iv xs) hs hown ⟨B, 0, none⟩ 1 1 [.int .i64 z] hx rfl ?_ ?_ (by omega) ?_ ?_ hL w.heap.size rfl ?_
  · intro j u hu
    match j, hu with
    | 0, hu => simp at hu; subst hu; exact hB.cell 0
    | j + 1, hu => simp at hu
  · intro u hu
    simp at hu
    subst hu
    rfl
  · unfold maxLen; omega
  · omega
  · intro q cap w' h1 h2 h3 _
    refine h q cap w' ?_ h2 h3
    simpa [iv_append, iv] using h1
/-- what the loads of an append read -/
def S26 (g i N j : Nat) (x z : Value) (w : World) : Prop := w.cell? ⟨g, i, none⟩ = some x ∧ w.cell? ⟨N, j, none⟩ = some z ∧ True
theorem l09Holds_is {p l g s share : Int} {b : Bool} (e : hoB p l g s share = b) (N : Nat) (w : World) (h : cordOk p l g s) (h0 : 0 ≤ share) (h1 : share ≤ 1000) (hk : Blk w N 39 #[.int .i64 p, .int .i64 l, .int .i64 g, .int .i64 s]) :
    Calls Try.prog 86 #[.pointer (some ⟨N, 0, none⟩), .int .i64 share] w fun e w' => e = .returned (.bool b) ∧ Below w.heap.size w w' := by
  rw [← e]; exact l09Holds_any p l g s share N w h h0 h1 hk
section
variable (cs : List CordD) (gs : List (List Int)) (g : Nat) (LA GA : Option Addr) (n lc gc : Nat) (most share : Int) (budget : Nat)
set_option maxRecDepth 100000 in
set_option maxHeartbeats 8000000 in
theorem next_s (n4 : n ≤ 4) (hcs : cs.length = n) (cok : ∀ x ∈ cs, cordOk x.a0 x.a1 x.a2 x.a3) (gok : ∀ r ∈ gs, r.length ≤ 6 ∧ ∀ z ∈ r, 1 ≤ z ∧ z ≤ 10000) (m0 : 0 ≤ most) (m1 : most ≤ 2000000) (s0 : 0 ≤ share) (s1 : share ≤ 1000) (d : Nat)
    (IH : ∀ (w : World) (own forces : List Int) (sum : Int) (st : SSt) (nodes : Nat) (v1 v2 v3 : Value), NextH cs gs g LA GA n lc gc most share budget d w own forces sum st nodes v1 v2 v3 →
      Calls Try.prog 60 #[.pointer (some ⟨g, 0, none⟩), .int .i64 sum] w (NextE g LA GA n lc gc most share budget w own forces v1 v2 (srch cs gs most share d own forces sum st)))
    (w : World) (own forces : List Int) (sum : Int) (st : SSt) (nodes : Nat) (v1 v2 v3 : Value) (h : NextH cs gs g LA GA n lc gc most share budget (d + 1) w own forces sum st nodes v1 v2 v3) :
    Calls Try.prog 60 #[.pointer (some ⟨g, 0, none⟩), .int .i64 sum] w (NextE g LA GA n lc gc most share budget w own forces v1 v2 (srch cs gs most share (d + 1) own forces sum st)) := by
  obtain ⟨h1, h2, hb, h3, h4, h5, h6, h7, h8, h9⟩ := h
  obtain ⟨K, O⟩ := h3
  obtain ⟨left, count, best, least⟩ := st
  obtain ⟨A1, c1, rfl⟩ := own_val O.o1
  obtain ⟨A2, c2, rfl⟩ := own_val O.o2
  obtain ⟨i, hi⟩ : ∃ i, i = own.length := ⟨_, rfl⟩
  have q2 : forces.length = i := by omega
  have q1 : own.length = i := hi.symm
  rw [q1] at K O ⊢
  rw [q2] at K O ⊢
  simp only at K O hb h8
  have hin : i < n := by omega
  have k8 : count + left ≤ 20000 := h8
  obtain ⟨nn, hnn⟩ : ∃ nn, nn = nodes + 1 := ⟨_, rfl⟩
  have e1 : (nodes : Int) + 1 = nn := by omega
  have hc := K.cell
  have hf := K.frozen
  have hgw := K.lt
  have K2 := K.set_ 9 (.int .i64 nn)
  have O2 := O.setb (p := ⟨g, 9, none⟩) (by simp) (.int .i64 nn)
  have F2 := Lib.hid (Frm.setg w g 9 (.int .i64 nn) (.slice A1 i c1) (.slice A2 i c2))
  have O10 : Hid (∀ j, Value.ownBlock (.slice A1 i c1) = some j → g + 1 ≤ j) := Lib.hid fun j hj => (O.o1.lt j hj).1
  have O20 : Hid (∀ j, Value.ownBlock (.slice A2 i c2) = some j → g + 1 ≤ j) := Lib.hid fun j hj => (O.o2.lt j hj).1
  have n20 : nodes ≤ 20000 := by omega
  have sb : 0 ≤ sum ∧ sum ≤ 40000000 := by omega
  have HB := Lib.hid hb
  have HNN := Lib.hid hnn
  have HT := Lib.hid h6
  have HR := Lib.hid h4
  have HG := Lib.hid h5
  have Q1 := Lib.hid q1
  have Q2 := Lib.hid q2
  have QD : Hid (i + (d + 1) = n) := Lib.hid (by omega)
  have QS : Hid (sum ≤ 10000000 * i) := Lib.hid (by omega)
  have IHH := Lib.hid IH
  have QB := Lib.hid h9
  clear h1 h2 h4 h5 h7 h8 K O hb hnn h6 q1 q2 hi IH
  by_cases l0 : left = 0
  · subst l0
    have HE : Hid (srch cs gs most share (d + 1) own forces sum ⟨0, count, best, least⟩ = none) := Lib.hid (by rw [srch]; rfl)
    have g1 : decide (budget < nn) = true := decide_eq_true (by have := HB.out; have := HNN.out; omega)
    have g2 : decide ((budget : Int) < nn) = true := decide_eq_true (by have := HB.out; have := HNN.out; omega)
    have g3 : (budget : Int) < nn := by have := HB.out; have := HNN.out; omega
    go_enter Try.func60, Try.ntmps60
    go_wp2_with fail
    generalize w.setCell ⟨g, 9, none⟩ (.int .i64 nn) = W at K2 O2 F2 ⊢
    clear hc hf
    simp at K2
    have hc := K2.cell
    go_quiet (fail)
    go_wp2
    go_ret
    exact ⟨by rw [HE.out]; rfl, F2.out.drewN _, by rw [HE.out]; intro s2 h; cases h⟩
  · obtain ⟨l, hl⟩ : ∃ l, left = l + 1 := ⟨left - 1, by omega⟩
    have hbn : Hid (nn + l = budget) := Lib.hid (by have := HB.out; have := HNN.out; omega)
    have l2 : count + l ≤ 20000 := by omega
    obtain ⟨x, hx, hxm⟩ := getD_of (l := cs) (i := i) (by omega)
    have xok := cok x hxm
    obtain ⟨gl, hgl, hgm⟩ := getD_of (l := gs) (i := i) (by rw [HG.out.1]; exact hin)
    have glk := gok gl hgm
    have HE : Hid (srch cs gs most share (d + 1) own forces sum ⟨left, count, best, least⟩ = lpS (okG cs most share i sum) (fun z st => srch cs gs most share d (own ++ [z]) (forces ++ [tnAt cs i z]) (sum + tnAt cs i z) st) gl ⟨l, count, best, least⟩) := Lib.hid (by
      rw [srch, if_neg l0, hcs, show n - (d + 1) = i by have := QD.out; omega, getD_ok hgl]
      simp only [hl, Nat.add_sub_cancel])
    have hok : ∀ z, okG cs most share i sum z = (hoB x.a0 x.a1 z x.a3 share && decide (sum + tenL x.a0 x.a1 z ≤ most)) := fun z => by rw [okG, tnAt, getD_ok hx]
    have htn : ∀ z, tnAt cs i z = tenL x.a0 x.a1 z := fun z => by rw [tnAt, getD_ok hx]
    have HOK := Lib.hid hok
    have HTN := Lib.hid htn
    obtain ⟨bl, ol, rfl, hbl, hcl⟩ := HR.out.at_ cordF_len (by omega)
    obtain ⟨bg, og, rfl, hbg, hcg⟩ := HG.out.at_ (by omega)
    obtain ⟨Ag, cg, hg0, hgr, hgc⟩ := hcg i gl hgl
    have B2 : Below g w (w.setCell ⟨g, 9, none⟩ (.int .i64 nn)) := (Below.refl g w).setCell (p := ⟨g, 9, none⟩) (Nat.le_refl _) _
    have hne : ((i : Int) == n) = false := by rw [Bool.eq_false_iff]; simp; omega
    have HX := Lib.hid hx
    clear hl hok htn hcg hx hgl cok gok hxm hgm
    obtain ⟨p, ln, gg, s⟩ := x
    simp only at xok HOK HTN hcl
    clear l0
    have g1 : decide (budget < nn) = false := decide_eq_false (by have := hbn.out; omega)
    have g2 : decide ((budget : Int) < nn) = false := decide_eq_false (by have := hbn.out; omega)
    have g3 : ¬ (budget : Int) < nn := by have := hbn.out; omega
    have HX0 := Lib.hid (hcl i ⟨p, ln, gg, s⟩ 0 (.int .i64 p) HX.out rfl)
    have HX1 := Lib.hid (hcl i ⟨p, ln, gg, s⟩ 1 (.int .i64 ln) HX.out rfl)
    have HX2 := Lib.hid (hcl i ⟨p, ln, gg, s⟩ 2 (.int .i64 gg) HX.out rfl)
    have HX3 := Lib.hid (hcl i ⟨p, ln, gg, s⟩ 3 (.int .i64 s) HX.out rfl)
    have HG0 := Lib.hid hg0
    clear hcl hg0
    go_enter Try.func60, Try.ntmps60
    go_wp2_with fail
    have W2 := Lib.hid B2
    generalize w.setCell ⟨g, 9, none⟩ (.int .i64 nn) = W at K2 O2 F2 W2 B2 ⊢
    clear hc hf B2
    simp at K2
    have hc := K2.cell
    go_quiet (fail)
    clear hc
    have K2 := K2.drewN nq
    have O2 := O2.drewN nq
    have F2 := Lib.hid (F2.out.drewN nq)
    generalize W.drewN nq = W1 at K2 O2 F2 ⊢
    clear W2
    have hc := K2.cell
    have S3 : Hid (NextAt g (some ⟨bl, ol, none⟩) (some ⟨bg, og, none⟩) n lc gc most share budget W1 own forces nn ⟨l, count, best, least⟩ (.slice A1 i c1) (.slice A2 i c2) v3) := Lib.hid ⟨K2, O2⟩
    obtain ⟨R, hR⟩ : ∃ R, R = lpS (okG cs most share i sum) (fun z st => srch cs gs most share d (own ++ [z]) (forces ++ [tnAt cs i z]) (sum + tnAt cs i z) st) gl ⟨l, count, best, least⟩ := ⟨_, rfl⟩
    have HE2 := HE.out
    rw [← hR] at HE2
    have HE2 := Lib.hid HE2
    have HR0 := Lib.hid hR.symm
    have glk2 := glk.1
    have GK := Lib.hid glk.2
    clear hR HE K2 O2 glk g1 g2 g3
    have hle : gl.length ≤ 9223372036854775807 := by omega
    go_wp2_with fail
    clear hc hne
    go_loopw [9] (fun kv wr => ∃ (k : Nat) (stk : SSt) (nk : Nat) (u1 u2 u3 : Value), k ≤ gl.length ∧ kv = .int .i64 k ∧ Hid (nk + stk.left = budget) ∧ Hid (lpS (okG cs most share i sum) (fun z st => srch cs gs most share d (own ++ [z]) (forces ++ [tnAt cs i z]) (sum + tnAt cs i z) st) (gl.drop k) stk = R) ∧ Hid (NextAt g (some ⟨bl, ol, none⟩) (some ⟨bg, og, none⟩) n lc gc most share budget wr own forces nk stk u1 u2 u3) ∧ Hid (Frm w wr g (.slice A1 i c1) (.slice A2 i c2)) ∧ Hid (Nw w (.slice A1 i c1) u1) ∧ Hid (Nw w (.slice A2 i c2) u2) ∧ Hid (stk.count + stk.left ≤ 20000)) (fun kv _ => gl.length - (intOf kv).toNat)
    case atStart => exact ⟨0, ⟨l, count, best, least⟩, nn, .slice A1 i c1, .slice A2 i c2, v3, Nat.zero_le _, rfl, hbn, by simpa using HR0, S3, F2, Lib.hid (Nw.refl _ _), Lib.hid (Nw.refl _ _), Lib.hid l2⟩
    case round =>
      obtain ⟨k, stk, nk, u1, u2, u3, hk, rfl, NB, HRk, SS, FF, N1, N2, CL⟩ := hrel
      obtain ⟨K, O⟩ := SS.out
      have hgr0 := K.lt
      have BW : Below g w wr := FF.out.below hgw (fun j hj => by have := (O10.out j hj); omega) (fun j hj => by have := (O20.out j hj); omega)
      have y0 := (BW.cell (p := ⟨bg, og + i, none⟩) hbg).trans HG0.out
      by_cases hlt : k < gl.length
      · obtain ⟨z, hz, hzm⟩ := getD_of hlt
        have zb := GK.out z hzm
        obtain ⟨bz, oz, rfl, hbz, hcz⟩ := hgr.1.ints (by omega)
        have z0c : wr.cell? ⟨bz, oz + k, none⟩ = some (.int .i64 z) := (BW.cell (p := ⟨bz, oz + k, none⟩) hbz).trans (hcz k z hz)
        have x0 := (BW.cell (p := ⟨bl, ol + i * 4, none⟩) hbl).trans HX0.out
        have x1 := (BW.cell (p := ⟨bl, ol + i * 4 + 1, none⟩) hbl).trans HX1.out
        have x2 := (BW.cell (p := ⟨bl, ol + i * 4 + 2, none⟩) hbl).trans HX2.out
        have x3 := (BW.cell (p := ⟨bl, ol + i * 4 + 3, none⟩) hbl).trans HX3.out
        obtain ⟨a1, b1, rfl⟩ := own_val O.o1
        obtain ⟨a2, b2, rfl⟩ := own_val O.o2
        rw [Q1.out] at O K N1
        rw [Q2.out] at O K N2
        obtain ⟨sl, sc, sbs, sle⟩ := stk
        have cok : cordOk p ln z s := ⟨xok.1, xok.2.1, zb, xok.2.2.2⟩
        have HDR : Hid (gl.drop k = z :: gl.drop (k + 1)) := Lib.hid (by obtain ⟨h1, h2⟩ := List.getElem?_eq_some_iff.1 hz; rw [List.drop_eq_getElem_cons h1, h2])
        have CLH := CL.out
        have NBH := NB.out
        simp only at CLH NBH K O
        have hc := K.cell
        have KN := Blk.new wr 39 #[.int .i64 p, .int .i64 ln, .int .i64 gg, .int .i64 s]
        have BA := (Below.refl wr.heap.size wr).alloc (Nat.le_refl _) (.cells #[.int .i64 p, .int .i64 ln, .int .i64 gg, .int .i64 s] 39)
        have K1 := K.alloc (.cells #[.int .i64 p, .int .i64 ln, .int .i64 gg, .int .i64 s] 39)
        have O1 := O.keep BA
        have F1 := Lib.hid (FF.out.more (Frm.of_below BA g _ _))
        have z1c := (BA.cell (p := ⟨bz, oz + k, none⟩) (by show bz < _; omega)).trans z0c
        have y1 := (BA.cell (p := ⟨bg, og + i, none⟩) (by show bg < _; omega)).trans y0
        have NWR := FF.out.size
        have gN : g < wr.heap.size := hgr0
        have HCZ := Lib.hid hcz
        have HZ := Lib.hid hz
        clear hcz hz hzm K O SS FF CL NB BW BA
        go_upto_region 23 with fail
        obtain ⟨N, hN⟩ : ∃ N, N = wr.heap.size := ⟨_, rfl⟩
        rw [← hN] at KN NWR gN ⊢
        clear x0 x1 x2 x3 y0 hc z0c hgr0
        generalize wr.alloc (.cells #[.int .i64 p, .int .i64 ln, .int .i64 gg, .int .i64 s] 39) = w1 at KN K1 O1 F1 z1c y1 ⊢
        clear hN
        have hc := K1.cell
        have kn0 := KN.frozen 2
        have kn1 := KN.cell
        have KN2 := KN.set_ 2 (.int .i64 z)
        simp at KN2
        have hgN : g ≠ N := by omega
        have K4 := K1.far (p := ⟨N, 2, none⟩) hgN (.int .i64 z)
        have O4 := O1.far (p := ⟨N, 2, none⟩) KN (by decide) (.int .i64 z)
        have F4 := F1.out.setN (p := ⟨N, 2, none⟩) NWR (.int .i64 z)
        clear K1 O1 F1 KN
        go_upto_region 24 with fail
        clear hc kn0 kn1 z1c y1
        generalize w1.setCell ⟨N, 2, none⟩ (.int .i64 z) = w4 at KN2 K4 O4 F4 ⊢
        obtain ⟨t, ht⟩ : ∃ t, t = tenL p ln z := ⟨_, rfl⟩
        have CT := l09Tension_any p ln z s N w4 cok KN2
        have tb := tenL_bd cok.1.1 cok.1.2 cok.2.1.1 cok.2.1.2 cok.2.2.1.1 cok.2.2.1.2
        rw [← ht] at CT tb
        have HTT := Lib.hid ht
        have COK := Lib.hid cok
        clear ht cok
        go_wp2_with fail
        refine CT.mono ?_
        rintro r w5 ⟨rfl, hb5⟩
        have K5 := K4.below hb5 K4.lt
        have KN5 := KN2.below hb5 KN2.lt
        have O5 := Lib.hid (O4.keep hb5)
        have F5 := Lib.hid (F4.more (Frm.of_below hb5 g _ _))
        clear CT KN2 K4 O4 F4 hb5
        have hc := K5.cell
        have K5 := Lib.hid K5
        have KN5 := Lib.hid KN5
        cases hho : hoB p ln z s share
        · have HN : Hid (okG cs most share i sum z = false) := Lib.hid (by rw [HOK.out, hho]; rfl)
          have CH := l09Holds_is hho N w5 COK.out s0 s1 KN5.out
          clear hho
          go_wp2_with fail
          refine CH.mono ?_
          rintro r wx ⟨rfl, hbx⟩
          have K6 := K5.out.below hbx K5.out.lt
          have O6 := O5.out.keep hbx
          have F6 := Lib.hid (F5.out.more (Frm.of_below hbx g _ _))
          have S6 : Hid (NextAt g (some ⟨bl, ol, none⟩) (some ⟨bg, og, none⟩) n lc gc most share budget wx own forces nk ⟨sl, sc, sbs, sle⟩ (.slice a1 i b1) (.slice a2 i b2) u3) := Lib.hid ⟨K6, O6⟩
          clear hc CH K5 KN5 O5 F5 hbx K6 O6
          go_wp2
          go_roundw
          case rel => exact ⟨k + 1, ⟨sl, sc, sbs, sle⟩, nk, .slice a1 i b1, .slice a2 i b2, u3, by omega, by go_num, Lib.hid NBH, Lib.hid (by have := HRk.out; rw [HDR.out, lpS, HN.out] at this; simpa using this), S6, F6, N1, N2, Lib.hid CLH⟩
          case measure => simp [intOf]; omega
        · have CH := l09Holds_is hho N w5 COK.out s0 s1 KN5.out
          go_wp2_with fail
          refine CH.mono ?_
          rintro r wx ⟨rfl, hbx⟩
          have K6 := K5.out.below hbx K5.out.lt
          have KN6 := Lib.hid (KN5.out.below hbx KN5.out.lt)
          have O6 := O5.out.keep hbx
          have F6 := Lib.hid (F5.out.more (Frm.of_below hbx g _ _))
          clear hc CH K5 KN5 O5 F5 hbx
          have hc := K6.cell
          have K6 := Lib.hid K6
          have O6 := Lib.hid O6
          by_cases hs : sum + t ≤ most
          · have HY : Hid (okG cs most share i sum z = true) := Lib.hid (by rw [HOK.out, hho, ← HTT.out]; simpa using hs)
            clear hho
            go_upto_region 26 with fail
            clear hc
            have M6 : Hid (Mid w wx g N 86 39 #[.slice (some ⟨bl, ol, none⟩) n lc, .slice (some ⟨bg, og, none⟩) n gc, .int .i64 most, .int .i64 share, .slice a1 i b1, .slice a2 i b2, .int .i64 sc, u3, .int .i64 sle, .int .i64 nk, .int .i64 budget] #[.int .i64 p, .int .i64 ln, .int .i64 z, .int .i64 s] (.slice A1 i c1) (.slice A2 i c2) (.slice a1 i b1) (.slice a2 i b2) u3 own forces sbs) := Lib.hid ⟨K6.out, KN6.out, O6.out, F6.out, N1.out, N2.out⟩
            clear K6 KN6 O6 F6
            obtain ⟨m, hm⟩ : ∃ m, m = i + 1 := ⟨_, rfl⟩
            have HM := Lib.hid hm
            clear hm
            refine wp_region_S (S26 g 4 N 2 (.slice a1 i b1) (.int .i64 z)) 11 (by kernel_rfl) ?_
            have M7 := Lib.hid M6.out.drew
            generalize wx.drew = wd at M7 ⊢
            have HS : S26 g 4 N 2 (.slice a1 i b1) (.int .i64 z) wd := ⟨M7.out.k.cell 4, M7.out.kn.cell 2, trivial⟩
            (refine wpAnyS_take0 0 ?_ rfl (by kernel_rfl) (by kernel_rfl) (by kernel_rfl) (by kernel_rfl) (fun _ _ _ h => h) (by rfl) ?_ (fun _ => HS) ?_; rotate_left; (· (intro w; go_simp; (try with_reducible rfl))); try simp only [Act.put, List.setIfInBounds_toArray, List.set_cons_zero, List.set_cons_succ])
            (refine wpAnyS_take0 1 ?_ rfl (by kernel_rfl) (by kernel_rfl) (by kernel_rfl) (by kernel_rfl) (fun _ _ _ h => h) (by rfl) ?_ (fun _ => HS) ?_; rotate_left; (· (intro w; go_simp; (try with_reducible rfl))); try simp only [Act.put, List.setIfInBounds_toArray, List.set_cons_zero, List.set_cons_succ])
            (refine wpAnyS_take0 2 ?_ rfl (by kernel_rfl) (by kernel_rfl) (by kernel_rfl) (by kernel_rfl) (fun _ _ _ h => h) (by rfl) ?_ (fun _ => HS) ?_; rotate_left; (· (intro w; go_simp; (try with_reducible rfl))); try simp only [Act.put, List.setIfInBounds_toArray, List.set_cons_zero, List.set_cons_succ])
            (refine wpAnyS_take0 3 ?_ rfl (by kernel_rfl) (by kernel_rfl) (by kernel_rfl) (by kernel_rfl) (fun _ _ _ h => h) (by rfl) ?_ (fun _ => HS) ?_; rotate_left; (· (intro w; go_simp; (try with_reducible rfl))); try simp only [Act.put, List.setIfInBounds_toArray, List.set_cons_zero, List.set_cons_succ])
            (refine wpAnyS_take 4 ?_ rfl (by kernel_rfl) (by kernel_rfl) (by kernel_rfl) (by kernel_rfl) (by kernel_rfl) (by kernel_rfl) (fun _ _ _ h => h) (by rfl) ?_ HS ?_; rotate_left; (· (intro w hSw; obtain ⟨s1, s2, s3⟩ := hSw; go_simp; (try with_reducible rfl))); try simp only [Act.put, List.setIfInBounds_toArray, List.set_cons_zero, List.set_cons_succ])
            (refine wpAnyS_take0 5 ?_ rfl (by kernel_rfl) (by kernel_rfl) (by kernel_rfl) (by kernel_rfl) (fun _ _ _ h => h) (by rfl) ?_ (fun _ => HS) ?_; rotate_left; (· (intro w; go_simp; (try with_reducible rfl))); try simp only [Act.put, List.setIfInBounds_toArray, List.set_cons_zero, List.set_cons_succ])
            (refine wpAnyS_take 6 ?_ rfl (by kernel_rfl) (by kernel_rfl) (by kernel_rfl) (by kernel_rfl) (by kernel_rfl) (by kernel_rfl) (fun _ _ _ h => h) (by rfl) ?_ HS ?_; rotate_left; (· (intro w hSw; obtain ⟨s1, s2, s3⟩ := hSw; go_simp; (try with_reducible rfl))); try simp only [Act.put, List.setIfInBounds_toArray, List.set_cons_zero, List.set_cons_succ])
            refine wpAnyS_one 7 rfl (by kernel_rfl) (by rfl) ?_
            intro K hK
            go_simp
            have M8 := Lib.hid (M7.out.alloc (.cells #[.int .i64 z] 2))
            have B8 := Lib.hid (Blk.new wd 2 #[.int .i64 z])
            refine hK _ _ (fun _ => ⟨M8.out.k.cell 4, M8.out.kn.cell 2, trivial⟩) ?_
            clear hK
            generalize wd.alloc (.cells #[.int .i64 z] 2) = w8 at M8 B8 ⊢
            refine wpAnyS_one 8 rfl (by kernel_rfl) (by rfl) ?_
            intro K hK
            refine stepApp1 (.tmp 154) (.tmp 157) rfl (g + 1) (.slice a1 i b1) i m HM.out own z rfl M8.out.o.o1 Q1.out wd.heap.size rfl B8.out (by have := M8.out.k.lt; omega) (by omega) ?_
            intro q1 e1 w9 o9 g9 l9
            have M9 := Lib.hid (M8.out.app1 (by decide) (by decide) o9 g9 l9)
            try simp only [Act.put, List.setIfInBounds_toArray, List.set_cons_zero, List.set_cons_succ]
            refine hK _ _ (fun _ => ⟨M9.out.k.cell 4, M9.out.kn.cell 2, trivial⟩) ?_
            clear hK M8 B8 M7 HS
            have HS : S26 g 4 N 2 (.slice a1 i b1) (.int .i64 z) w9 := ⟨M9.out.k.cell 4, M9.out.kn.cell 2, trivial⟩
            (refine wpAnyS_take0 9 ?_ rfl (by kernel_rfl) (by kernel_rfl) (by kernel_rfl) (by kernel_rfl) (fun _ _ _ h => h) (by rfl) ?_ (fun _ => HS) ?_; rotate_left; (· (intro w; go_simp; (try with_reducible rfl))); try simp only [Act.put, List.setIfInBounds_toArray, List.set_cons_zero, List.set_cons_succ])
            (refine wpAnyS_take0 10 ?_ rfl (by kernel_rfl) (by kernel_rfl) (by kernel_rfl) (by kernel_rfl) (fun _ _ _ h => h) (by rfl) ?_ (fun _ => HS) ?_; rotate_left; (· (intro w; go_simp; (try with_reducible rfl))); try simp only [Act.put, List.setIfInBounds_toArray, List.set_cons_zero, List.set_cons_succ])
            refine wpAnyS_one 11 rfl (by kernel_rfl) (by rfl) ?_
            intro K hK
            have cc := M9.out.k.cell 4
            have ff := M9.out.k.frozen 4
            simp at cc
            go_simp
            have MS := Lib.hid (M9.out.store hgN 4 (.slice (some ⟨q1, 0, none⟩) m e1))
            refine hK _ _ (fun h => absurd h (by decide +kernel)) ?_
            clear hK cc ff M9 HS
            generalize World.setCell w9 ⟨g, 4, none⟩ (.slice (some ⟨q1, 0, none⟩) m e1) = wa at MS ⊢
            refine wpAnyS_done (by kernel_rfl) ?_
            have MA : Hid (Mid w wa g N 86 39 #[.slice (some ⟨bl, ol, none⟩) n lc, .slice (some ⟨bg, og, none⟩) n gc, .int .i64 most, .int .i64 share, .slice (some ⟨q1, 0, none⟩) m e1, .slice a2 i b2, .int .i64 sc, u3, .int .i64 sle, .int .i64 nk, .int .i64 budget] #[.int .i64 p, .int .i64 ln, .int .i64 z, .int .i64 s] (.slice A1 i c1) (.slice A2 i c2) (.slice (some ⟨q1, 0, none⟩) m e1) (.slice a2 i b2) u3 (own ++ [z]) forces sbs) := Lib.hid (by have := MS.out; simpa using this)
            clear MS
            go_upto_region 27 with fail
            have hcA := MA.out.k.cell
            have M8 := Lib.hid (MA.out.alloc (.cells #[.int .i64 t] 2))
            have gwa : g < wa.heap.size := MA.out.k.lt
            clear MA
            go_upto_region 28 with (at_builtin; refine listApp1 rfl (.tmp 165) (.tmp 167) rfl (g + 1) (.slice a2 i b2) i m HM.out forces t rfl M8.out.o.o2 Q2.out wa.heap.size rfl (Blk.new wa _ _) (by simp; omega) (by omega) ?_; intro q2 e2 w10 o9 g9 l9; have M9 := Lib.hid (M8.out.app2 (by decide) (by decide) o9 g9 l9); have cc := M9.out.k.cell 5; have ff := M9.out.k.frozen 5; simp at cc; clear o9 g9 l9 hcA M8)
            clear cc ff
            have MS := Lib.hid (M9.out.store hgN 5 (.slice (some ⟨q2, 0, none⟩) m e2))
            clear M9
            generalize World.setCell w10 ⟨g, 5, none⟩ (.slice (some ⟨q2, 0, none⟩) m e2) = wc at MS ⊢
            have M8 : Hid (Mid w wc g N 86 39 #[.slice (some ⟨bl, ol, none⟩) n lc, .slice (some ⟨bg, og, none⟩) n gc, .int .i64 most, .int .i64 share, .slice (some ⟨q1, 0, none⟩) m e1, .slice (some ⟨q2, 0, none⟩) m e2, .int .i64 sc, u3, .int .i64 sle, .int .i64 nk, .int .i64 budget] #[.int .i64 p, .int .i64 ln, .int .i64 z, .int .i64 s] (.slice A1 i c1) (.slice A2 i c2) (.slice (some ⟨q1, 0, none⟩) m e1) (.slice (some ⟨q2, 0, none⟩) m e2) u3 (own ++ [z]) (forces ++ [t]) sbs) := Lib.hid (by have := MS.out; simpa using this)
            clear MS
            have BWc : Below g w wc := M8.out.f.below hgw (fun j hj => by have := O10.out j hj; omega) (fun j hj => by have := O20.out j hj; omega)
            obtain ⟨r, hr⟩ : ∃ r, r = srch cs gs most share d (own ++ [z]) (forces ++ [t]) (sum + t) ⟨sl, sc, sbs, sle⟩ := ⟨_, rfl⟩
            have CI := IHH.out wc (own ++ [z]) (forces ++ [t]) (sum + t) ⟨sl, sc, sbs, sle⟩ nk (.slice (some ⟨q1, 0, none⟩) m e1) (.slice (some ⟨q2, 0, none⟩) m e2) u3 ⟨by have := QD.out; rw [List.length_append, Q1.out]; simp; omega, by simp [Q1.out, Q2.out], NBH, ⟨M8.out.k, M8.out.o⟩, HR.out.below BWc, HG.out.belowB BWc, tsOk_add HT.out tb.1 tb.2, by have := QS.out; rw [List.length_append, Q1.out]; simp; omega, CLH, QB.out⟩
            rw [← hr] at CI
            have HRR := Lib.hid hr
            clear hr
            go_wp2_with fail
            refine CI.mono ?_
            rintro e9 w9 ⟨rfl, F9, hst⟩
            have FF9 := Lib.hid (M8.out.f.trans F9 M8.out.n1 M8.out.n2)
            have RK : Hid (R = r.bind (lpS (okG cs most share i sum) (fun z st => srch cs gs most share d (own ++ [z]) (forces ++ [tnAt cs i z]) (sum + tnAt cs i z) st) (gl.drop (k + 1)))) := Lib.hid (by
              have := HRk.out
              rw [HDR.out, lpS, if_pos HY.out, HTN.out, ← HTT.out, ← HRR.out] at this
              rw [← this]
              cases r <;> rfl)
            cases r with
            | none =>
              clear CI hst F9 BWc
              go_wp2
              go_ret
              exact ⟨by (try rw [HE2.out]); rw [RK.out]; rfl, FF9.out, by (try rw [HE2.out]); rw [RK.out]; intro s2 h; cases h⟩
            | some s2 =>
              have CNT : Hid (s2.count + s2.left ≤ 20000) := Lib.hid (by
                have := srch_cnt d _ _ _ _ _ HRR.out.symm
                simp only at this
                omega)
              obtain ⟨nk', x1, x2, x3, NB9, ⟨K9, O9⟩, N9, N9'⟩ := hst s2 rfl
              have NN1 := Lib.hid (M8.out.n1.trans N9 M8.out.f.size)
              have NN2 := Lib.hid (M8.out.n2.trans N9' M8.out.f.size)
              obtain ⟨y1, d1, rfl⟩ := own_val O9.o1
              obtain ⟨y2, d2, rfl⟩ := own_val O9.o2
              rw [show (own ++ [z]).length = m by rw [List.length_append, Q1.out, HM.out]; rfl] at K9 O9 NN1
              rw [show (forces ++ [t]).length = m by rw [List.length_append, Q2.out, HM.out]; rfl] at K9 O9 NN2
              have p1 : w9.ownsRow (g + 1) 2 1 (.slice y1 i d1) own.length (iv own) := by
                have := O9.o1
                rw [List.length_append, Q1.out, iv_append] at this
                rw [HM.out] at this
                rw [Q1.out]; exact own_cut this
              have p2 : w9.ownsRow (g + 1) 2 1 (.slice y2 i d2) forces.length (iv forces) := by
                have := O9.o2
                rw [List.length_append, Q2.out, iv_append] at this
                rw [HM.out] at this
                rw [Q2.out]; exact own_cut this
              have cap1 : i ≤ d1 := by rw [Q1.out] at p1; exact own_cap p1
              have cap2 : i ≤ d2 := by rw [Q2.out] at p2; exact own_cap p2
              have O10' : Own3 w9 (g + 1) (.slice y1 i d1) (.slice y2 i d2) x3 own forces s2.best := ⟨p1, p2, O9.o3, by rw [ob_len y1 i m, ob_len y2 i m]; exact O9.d12, by rw [ob_len y1 i m]; exact O9.d13, by rw [ob_len y2 i m]; exact O9.d23⟩
              have im : i ≤ m := by have := HM.out; omega
              have hc := K9.cell
              have hf := K9.frozen
              have KS1 := K9.set_ 4 (.slice y1 i d1)
              have OS1 := O10'.setb (p := ⟨g, 4, none⟩) (by simp) (.slice y1 i d1)
              have FS1 := Lib.hid (FF9.out.trans (Frm.setg w9 g 4 (.slice y1 i d1) _ _) (Nw.refl _ _) (Nw.refl _ _))
              have NBB := Lib.hid NB9
              clear O9 p1 p2 F9 N9 N9' hst CI M8 BWc NB9 O10' K9 FF9
              go_upto_region 31 with fail
              clear hc hf
              generalize World.setCell w9 ⟨g, 4, none⟩ (.slice y1 i d1) = wp at KS1 OS1 FS1 ⊢
              simp at KS1
              have hc := KS1.cell
              have hf := KS1.frozen
              have KS2 := KS1.set_ 5 (.slice y2 i d2)
              have OS2 := OS1.setb (p := ⟨g, 5, none⟩) (by simp) (.slice y2 i d2)
              have FS2 := Lib.hid (FS1.out.trans (Frm.setg wp g 5 (.slice y2 i d2) _ _) (Nw.refl _ _) (Nw.refl _ _))
              clear KS1 OS1 FS1
              go_upto_region 21 with fail
              clear hc hf
              generalize World.setCell wp ⟨g, 5, none⟩ (.slice y2 i d2) = wq at KS2 OS2 FS2 ⊢
              simp at KS2
              have SS : Hid (NextAt g (some ⟨bl, ol, none⟩) (some ⟨bg, og, none⟩) n lc gc most share budget wq own forces nk' s2 (.slice y1 i d1) (.slice y2 i d2) x3) := Lib.hid ⟨KS2, OS2⟩
              clear KS2 OS2
              have NI1 : Hid (Nw w (.slice A1 i c1) (.slice y1 i d1)) := Lib.hid (by have := NN1.out; unfold Nw at this ⊢; rw [ob_len y1 i m]; exact this)
              have NI2 : Hid (Nw w (.slice A2 i c2) (.slice y2 i d2)) := Lib.hid (by have := NN2.out; unfold Nw at this ⊢; rw [ob_len y2 i m]; exact this)
              go_wp2
              go_roundw
              case rel => exact ⟨k + 1, s2, nk', .slice y1 i d1, .slice y2 i d2, x3, by omega, by go_num, NBB, Lib.hid (by rw [RK.out]; rfl), SS, FS2, NI1, NI2, CNT⟩
              case measure => simp [intOf]; omega
          · have HN : Hid (okG cs most share i sum z = false) := Lib.hid (by rw [HOK.out, hho, ← HTT.out]; simpa using hs)
            have S6 : Hid (NextAt g (some ⟨bl, ol, none⟩) (some ⟨bg, og, none⟩) n lc gc most share budget wx own forces nk ⟨sl, sc, sbs, sle⟩ (.slice a1 i b1) (.slice a2 i b2) u3) := Lib.hid ⟨K6.out, O6.out⟩
            clear K6 O6 hho
            go_wp2
            go_roundw
            case rel => exact ⟨k + 1, ⟨sl, sc, sbs, sle⟩, nk, .slice a1 i b1, .slice a2 i b2, u3, by omega, by go_num, Lib.hid NBH, Lib.hid (by have := HRk.out; rw [HDR.out, lpS, HN.out] at this; simpa using this), S6, F6, N1, N2, Lib.hid CLH⟩
            case measure => simp [intOf]; omega
      · obtain rfl : k = gl.length := by omega
        rw [List.drop_length, lpS] at HRk
        have HQ := HRk.out
        have hc := K.cell
        go_wp2
        go_ret
        exact ⟨by (try rw [HE2.out]); rw [← HQ]; rfl, FF.out, by (try rw [HE2.out]); rw [← HQ]; intro s2 h; injection h with h; subst h; exact ⟨nk, u1, u2, u3, NB.out, SS.out, N1.out, N2.out⟩⟩
end
section
theorem next_any (cs : List CordD) (gs : List (List Int)) (g : Nat) (LA GA : Option Addr) (n lc gc : Nat) (most share : Int) (budget : Nat) (n4 : n ≤ 4) (hcs : cs.length = n) (cok : ∀ x ∈ cs, cordOk x.a0 x.a1 x.a2 x.a3) (gok : ∀ r ∈ gs, r.length ≤ 6 ∧ ∀ z ∈ r, 1 ≤ z ∧ z ≤ 10000) (m0 : 0 ≤ most) (m1 : most ≤ 2000000) (s0 : 0 ≤ share) (s1 : share ≤ 1000) :
    ∀ (d : Nat) (w : World) (own forces : List Int) (sum : Int) (st : SSt) (nodes : Nat) (v1 v2 v3 : Value), NextH cs gs g LA GA n lc gc most share budget d w own forces sum st nodes v1 v2 v3 →
      Calls Try.prog 60 #[.pointer (some ⟨g, 0, none⟩), .int .i64 sum] w (NextE g LA GA n lc gc most share budget w own forces v1 v2 (srch cs gs most share d own forces sum st))
  | 0, w, own, forces, sum, st, nodes, v1, v2, v3, h => next_z cs gs g LA GA n lc gc most share budget n4 w own forces sum st nodes v1 v2 v3 h
  | d + 1, w, own, forces, sum, st, nodes, v1, v2, v3, h => next_s cs gs g LA GA n lc gc most share budget n4 hcs cok gok m0 m1 s0 s1 d (next_any cs gs g LA GA n lc gc most share budget n4 hcs cok gok m0 m1 s0 s1 d) w own forces sum st nodes v1 v2 v3 h
end
end Go.Proofs.Ytemkggecempmgaa
