/- Set-ups of strings: the program's search, a string at a time. -/
import Derived.Test.YtemkggecempmgaaSearchI
set_option linter.unusedVariables false
set_option linter.unusedSimpArgs false
namespace Go.Proofs.Ytemkggecempmgaa
open Go.RowKit

section
variable (cs : List CordD) (gs : List (List Int)) (g : Nat) (LA GA : Option Addr) (n lc gc : Nat) (most share : Int)
set_option maxRecDepth 100000 in
set_option maxHeartbeats 8000000 in
theorem search_s (n4 : n ≤ 4) (hcs : cs.length = n) (cok : ∀ x ∈ cs, cordOk x.a0 x.a1 x.a2 x.a3) (gok : ∀ r ∈ gs, r.length ≤ 6 ∧ ∀ z ∈ r, 1 ≤ z ∧ z ≤ 10000) (m0 : 0 ≤ most) (m1 : most ≤ 2000000) (s0 : 0 ≤ share) (s1 : share ≤ 1000) (d : Nat)
    (IH : ∀ (w : World) (given tens : List Int) (sum : Int) (st : SSt) (v1 v2 v3 : Value), SrchH cs gs g LA GA n lc gc most share d w given tens sum st v1 v2 v3 →
      Calls Try.prog 82 #[.pointer (some ⟨g, 0, none⟩)] w (SrchE g LA GA n lc gc most share w given tens sum v1 v2 (srch cs gs most share d given tens sum st)))
    (w : World) (given tens : List Int) (sum : Int) (st : SSt) (v1 v2 v3 : Value) (h : SrchH cs gs g LA GA n lc gc most share (d + 1) w given tens sum st v1 v2 v3) :
    Calls Try.prog 82 #[.pointer (some ⟨g, 0, none⟩)] w (SrchE g LA GA n lc gc most share w given tens sum v1 v2 (srch cs gs most share (d + 1) given tens sum st)) := by
  obtain ⟨h1, h2, h3, h4, h5, h6, h7, h8⟩ := h
  obtain ⟨K, O⟩ := h3
  obtain ⟨left, count, best, least⟩ := st
  obtain ⟨A1, c1, rfl⟩ := own_val O.o1
  obtain ⟨A2, c2, rfl⟩ := own_val O.o2
  obtain ⟨i, hi⟩ : ∃ i, i = given.length := ⟨_, rfl⟩
  have q2 : tens.length = i := by omega
  have q1 : given.length = i := hi.symm
  rw [q1] at K O ⊢
  rw [q2] at K O ⊢
  have hin : i < n := by omega
  have HK := Lib.hid K
  have HO := Lib.hid O
  have k8 : count + left ≤ 20000 := h8
  have HR := Lib.hid h4
  have HG := Lib.hid h5
  have HT := Lib.hid h6
  have sb : 0 ≤ sum ∧ sum ≤ 40000000 := by omega
  have O10 : Hid (∀ j, Value.ownBlock (.slice A1 i c1) = some j → g + 1 ≤ j) := Lib.hid fun j hj => (O.o1.lt j hj).1
  have O20 : Hid (∀ j, Value.ownBlock (.slice A2 i c2) = some j → g + 1 ≤ j) := Lib.hid fun j hj => (O.o2.lt j hj).1
  have Q1 := Lib.hid q1
  have Q2 := Lib.hid q2
  have QD : Hid (i + (d + 1) = n) := Lib.hid (by omega)
  have IHH := Lib.hid IH
  have QS : Hid (sum ≤ 10000000 * i) := Lib.hid (by omega)
  clear h1 h2 h4 h5 h6 h7 h8 K O q1 q2 hi IH
  by_cases l0 : left = 0
  · subst l0
    have HE : Hid (srch cs gs most share (d + 1) given tens sum ⟨0, count, best, least⟩ = none) := Lib.hid (by rw [srch]; rfl)
    have hc := HK.out.cell
    go_enter Try.func82, Try.ntmps82
    go_wp2
    go_ret
    exact ⟨⟨0, count, best, least⟩, .slice A1 i c1, .slice A2 i c2, v3, by rw [HE.out]; rfl, (by rw [HE.out]; intro s2 h; cases h), ⟨HK.out, HO.out⟩, Frm.refl _ _ _ _, Nw.refl _ _, Nw.refl _ _⟩
  · obtain ⟨l, hl⟩ : ∃ l, left = l + 1 := ⟨left - 1, by omega⟩
    have e1 : (left : Int) - 1 = l := by omega
    have HL := Lib.hid hl
    have l2 : count + l ≤ 20000 := by omega
    have l1 : 1 ≤ (left : Int) := by omega
    obtain ⟨x, hx, hxm⟩ := getD_of (l := cs) (i := i) (by omega)
    have xok := cok x hxm
    obtain ⟨gl, hgl, hgm⟩ := getD_of (l := gs) (i := i) (by rw [HG.out.1]; exact hin)
    have glk := gok gl hgm
    have HE : Hid (srch cs gs most share (d + 1) given tens sum ⟨left, count, best, least⟩ = lpS (okG cs most share i sum) (fun z st => srch cs gs most share d (given ++ [z]) (tens ++ [tnAt cs i z]) (sum + tnAt cs i z) st) gl ⟨l, count, best, least⟩) := Lib.hid (by
      rw [srch, if_neg l0, hcs, show n - (d + 1) = i by have := QD.out; omega, getD_ok hgl]
      simp only [hl, Nat.add_sub_cancel])
    have hok : ∀ z, okG cs most share i sum z = (hoB x.a0 x.a1 z x.a3 share && decide (sum + tenL x.a0 x.a1 z ≤ most)) := fun z => by rw [okG, tnAt, getD_ok hx]
    have htn : ∀ z, tnAt cs i z = tenL x.a0 x.a1 z := fun z => by rw [tnAt, getD_ok hx]
    have HOK := Lib.hid hok
    have HTN := Lib.hid htn
    obtain ⟨bl, ol, rfl, hbl, hcl⟩ := HR.out.at_ cordF_len (by omega)
    obtain ⟨bg, og, rfl, hbg, hcg⟩ := HG.out.at_ (by omega)
    obtain ⟨Ag, cg, hg0, hgr, hgc⟩ := hcg i gl hgl
    have hc := HK.out.cell
    have hf := HK.out.frozen
    have K2 := HK.out.set_ 4 (.int .i64 l)
    have O2 := HO.out.setb (p := ⟨g, 4, none⟩) (by simp) (.int .i64 l)
    have F2 := Lib.hid (Frm.setg w g 4 (.int .i64 l) (.slice A1 i c1) (.slice A2 i c2))
    have B2 : Below g w (w.setCell ⟨g, 4, none⟩ (.int .i64 l)) := (Below.refl g w).setCell (p := ⟨g, 4, none⟩) (Nat.le_refl _) _
    have hgw := HK.out.lt
    have hne : ((i : Int) == n) = false := by rw [Bool.eq_false_iff]; simp; omega
    have HX := Lib.hid hx
    clear hl hok htn hcg hx hgl cok gok hxm hgm HK HO
    obtain ⟨p, ln, gg, s⟩ := x
    simp only at xok HOK HTN hcl
    have lz : ((left : Int) == 0) = false := by rw [Bool.eq_false_iff]; simp; omega
    have L0 := Lib.hid l0
    clear l0 l1
    go_enter Try.func82, Try.ntmps82
    go_upto_region 4 with fail
    have W2 := Lib.hid B2
    have x0 := (W2.out.cell (p := ⟨bl, ol + i * 4, none⟩) hbl).trans (hcl i ⟨p, ln, gg, s⟩ 0 (.int .i64 p) HX.out rfl)
    have x1 := (W2.out.cell (p := ⟨bl, ol + i * 4 + 1, none⟩) hbl).trans (hcl i ⟨p, ln, gg, s⟩ 1 (.int .i64 ln) HX.out rfl)
    have x2 := (W2.out.cell (p := ⟨bl, ol + i * 4 + 2, none⟩) hbl).trans (hcl i ⟨p, ln, gg, s⟩ 2 (.int .i64 gg) HX.out rfl)
    have x3 := (W2.out.cell (p := ⟨bl, ol + i * 4 + 3, none⟩) hbl).trans (hcl i ⟨p, ln, gg, s⟩ 3 (.int .i64 s) HX.out rfl)
    have y0 := (W2.out.cell (p := ⟨bg, og + i, none⟩) hbg).trans hg0
    clear hcl hg0 hc hf B2
    generalize w.setCell ⟨g, 4, none⟩ (.int .i64 l) = W at K2 O2 F2 W2 x0 x1 x2 x3 y0 ⊢
    simp at K2
    have hc := K2.cell
    have hgW := K2.lt
    have KN := Blk.new W 39 #[.int .i64 0, .int .i64 0, .int .i64 0, .int .i64 0]
    go_upto_region 12 with fail
    have KX := Blk.new W 39 #[.int .i64 p, .int .i64 ln, .int .i64 gg, .int .i64 s]
    have BA := (Below.refl W.heap.size W).alloc (Nat.le_refl _) (.cells #[.int .i64 p, .int .i64 ln, .int .i64 gg, .int .i64 s] 39)
    have K3 := K2.alloc (.cells #[.int .i64 p, .int .i64 ln, .int .i64 gg, .int .i64 s] 39)
    have O3 := O2.keep BA
    have F3 := F2.out.more (Frm.of_below BA g _ _)
    have y1 := (BA.cell (p := ⟨bg, og + i, none⟩) (by show bg < _; omega)).trans y0
    obtain ⟨N, hN⟩ : ∃ N, N = W.heap.size := ⟨_, rfl⟩
    have NW : w.heap.size ≤ N := by rw [hN]; exact F2.out.size
    have gN : g < N := by rw [hN]; exact hgW
    rw [← hN] at KX ⊢
    clear x0 x1 x2 x3 y0 hc hgW KN K2 O2 F2 W2 BA
    generalize W.alloc (.cells #[.int .i64 p, .int .i64 ln, .int .i64 gg, .int .i64 s] 39) = W1 at KX K3 O3 F3 y1 ⊢
    clear hN
    have hc := K3.cell
    have S3 : Hid (SetAt g (some ⟨bl, ol, none⟩) (some ⟨bg, og, none⟩) n lc gc most share W1 given tens sum ⟨l, count, best, least⟩ (.slice A1 i c1) (.slice A2 i c2) v3) := Lib.hid ⟨K3, O3⟩
    have F3 := Lib.hid F3
    have KX := Lib.hid KX
    obtain ⟨R, hR⟩ : ∃ R, R = lpS (okG cs most share i sum) (fun z st => srch cs gs most share d (given ++ [z]) (tens ++ [tnAt cs i z]) (sum + tnAt cs i z) st) gl ⟨l, count, best, least⟩ := ⟨_, rfl⟩
    have HE2 := HE.out
    rw [← hR] at HE2
    have HE2 := Lib.hid HE2
    have HR0 := Lib.hid hR.symm
    have glk2 := glk.1
    have GK := Lib.hid glk.2
    clear hR HE K3 O3 glk
    have hle : gl.length ≤ 9223372036854775807 := by omega
    go_wp2_with fail
    go_loopw [83] (fun kv wr => ∃ (k : Nat) (stk : SSt) (u1 u2 u3 : Value) (z : Int), k ≤ gl.length ∧ kv = .int .i64 k ∧ Hid (lpS (okG cs most share i sum) (fun z st => srch cs gs most share d (given ++ [z]) (tens ++ [tnAt cs i z]) (sum + tnAt cs i z) st) (gl.drop k) stk = R) ∧ Hid (SetAt g (some ⟨bl, ol, none⟩) (some ⟨bg, og, none⟩) n lc gc most share wr given tens sum stk u1 u2 u3) ∧ Hid (Blk wr N 39 #[.int .i64 p, .int .i64 ln, .int .i64 z, .int .i64 s]) ∧ Hid (Frm w wr g (.slice A1 i c1) (.slice A2 i c2)) ∧ Hid (Nw w (.slice A1 i c1) u1) ∧ Hid (Nw w (.slice A2 i c2) u2) ∧ Hid (stk.count + stk.left ≤ 20000)) (fun kv _ => gl.length - (intOf kv).toNat)
    case atStart => exact ⟨0, ⟨l, count, best, least⟩, .slice A1 i c1, .slice A2 i c2, v3, gg, Nat.zero_le _, rfl, by simpa using HR0, S3, KX, F3, Lib.hid (Nw.refl _ _), Lib.hid (Nw.refl _ _), Lib.hid l2⟩
    case round =>
      obtain ⟨k, stk, u1, u2, u3, z0, hk, rfl, HRk, SS, KN, FF, N1, N2, CL⟩ := hrel
      obtain ⟨K, O⟩ := SS.out
      have hgr0 := K.lt
      have BW : Below g w wr := FF.out.below hgw (fun j hj => by have := (O10.out j hj); omega) (fun j hj => by have := (O20.out j hj); omega)
      by_cases hlt : k < gl.length
      · obtain ⟨z, hz, hzm⟩ := getD_of hlt
        have zb := GK.out z hzm
        obtain ⟨bz, oz, rfl, hbz, hcz⟩ := hgr.1.ints (by omega)
        have z0c : wr.cell? ⟨bz, oz + k, none⟩ = some (.int .i64 z) := (BW.cell (p := ⟨bz, oz + k, none⟩) hbz).trans (hcz k z hz)
        obtain ⟨a1, b1, rfl⟩ := own_val O.o1
        obtain ⟨a2, b2, rfl⟩ := own_val O.o2
        rw [Q1.out] at O K N1
        rw [Q2.out] at O K N2
        obtain ⟨sl, sc, sbs, sle⟩ := stk
        have cok : cordOk p ln z s := ⟨xok.1, xok.2.1, zb, xok.2.2.2⟩
        have HDR : Hid (gl.drop k = z :: gl.drop (k + 1)) := Lib.hid (by obtain ⟨h1, h2⟩ := List.getElem?_eq_some_iff.1 hz; rw [List.drop_eq_getElem_cons h1, h2])
        have kn0 := KN.out.frozen 2
        have kn1 := KN.out.cell
        have KN2 := KN.out.set_ 2 (.int .i64 z)
        simp at KN2
        have hgN : g ≠ N := by omega
        have K4 := K.far (p := ⟨N, 2, none⟩) hgN (.int .i64 z)
        have O4 := O.far (p := ⟨N, 2, none⟩) KN.out (by decide) (.int .i64 z)
        have F4 := FF.out.setN (p := ⟨N, 2, none⟩) NW (.int .i64 z)
        have CLH := CL.out
        simp only at CLH
        clear hcz hz hzm K O SS FF CL KN BW hc y1
        go_upto_region 16 with fail
        generalize wr.setCell ⟨N, 2, none⟩ (.int .i64 z) = w4 at KN2 K4 O4 F4 ⊢
        clear kn0 kn1
        have kn1 := KN2.cell
        obtain ⟨t, ht⟩ : ∃ t, t = tenL p ln z := ⟨_, rfl⟩
        have CT := tension_any p ln z s w4 cok
        have tb := tenL_bd cok.1.1 cok.1.2 cok.2.1.1 cok.2.1.2 cok.2.2.1.1 cok.2.2.1.2
        rw [← ht] at CT tb
        have HTT := Lib.hid ht
        have COK := Lib.hid cok
        clear ht cok
        go_wp2_with fail
        refine CT.mono ?_
        rintro r w5 ⟨rfl, hb5⟩
        have K5 := K4.below hb5 K4.lt
        have KN5 := KN2.below hb5 KN2.lt
        have O5 := Lib.hid (O4.keep hb5)
        have F5 := Lib.hid (F4.more (Frm.of_below hb5 g _ _))
        clear CT kn1 KN2 K4 O4 F4 hb5
        go_upto_region 17 with fail
        have C0 : ∀ (u : Bel w5.heap.size w5) (j : Nat), u.val.cell? ⟨g, j, none⟩ = (#[.slice (some ⟨bl, ol, none⟩) n lc, .slice (some ⟨bg, og, none⟩) n gc, .int .i64 most, .int .i64 share, .int .i64 sl, .slice a1 i b1, .slice a2 i b2, .int .i64 sum, .int .i64 sc, u3, .int .i64 sle] : Array Value)[j]? := bel_cell K5 K5.lt
        have C1 : ∀ (u : Bel w5.heap.size w5) (j : Nat), u.val.cell? ⟨N, j, none⟩ = (#[.int .i64 p, .int .i64 ln, .int .i64 z, .int .i64 s] : Array Value)[j]? := bel_cell KN5 KN5.lt
        have ws : IntKind.i64.wrap (sum + t) = sum + t := IntWalk.i64_in _ (by omega)
        have K5 := Lib.hid K5
        have KN5 := Lib.hid KN5
        cases hho : hoB p ln z s share
        · have HN : Hid (okG cs most share i sum z = false) := Lib.hid (by rw [HOK.out, hho]; rfl)
          (refine wp_region_bel w5.heap.size w5 (Below.refl _ _) (by kernel_rfl) (by kernel_rfl) ?_; (repeat (go_big_quiet_step ((first | (go_at_call 52; exact bel_of (Nat.le_refl _) (holds_is hho _ COK.out s0 s1)))))); refine wpQuiet_nil ?_; rintro wx ⟨⟨_, hbx⟩, rfl⟩)
          have K6 := K5.out.below hbx K5.out.lt
          have KN6 := Lib.hid (KN5.out.below hbx KN5.out.lt)
          have O6 := O5.out.keep hbx
          have F6 := Lib.hid (F5.out.more (Frm.of_below hbx g _ _))
          have S6 : Hid (SetAt g (some ⟨bl, ol, none⟩) (some ⟨bg, og, none⟩) n lc gc most share wx given tens sum ⟨sl, sc, sbs, sle⟩ (.slice a1 i b1) (.slice a2 i b2) u3) := Lib.hid ⟨K6, O6⟩
          clear C0 C1 K5 KN5 O5 F5 hbx K6 O6 hho
          go_wp2
          go_roundw
          case rel => exact ⟨k + 1, ⟨sl, sc, sbs, sle⟩, .slice a1 i b1, .slice a2 i b2, u3, z, by omega, by go_num, Lib.hid (by have := HRk.out; rw [HDR.out, lpS, HN.out] at this; simpa using this), S6, KN6, F6, N1, N2, Lib.hid CLH⟩
          case measure => simp [intOf]; omega
        · by_cases hs : sum + t ≤ most
          · have HY : Hid (okG cs most share i sum z = true) := Lib.hid (by rw [HOK.out, hho, ← HTT.out]; simpa using hs)
            have hd : decide (most < sum + t) = false := decide_eq_false (by omega)
            (refine wp_region_bel w5.heap.size w5 (Below.refl _ _) (by kernel_rfl) (by kernel_rfl) ?_; (repeat (go_big_quiet_step ((first | (go_at_call 52; exact bel_of (Nat.le_refl _) (holds_is hho _ COK.out s0 s1)))))); refine wpQuiet_nil ?_; rintro wx ⟨⟨_, hbx⟩, rfl⟩)
            have K6 := K5.out.below hbx K5.out.lt
            have KN6 := Lib.hid (KN5.out.below hbx KN5.out.lt)
            have O6 := O5.out.keep hbx
            have F6 := Lib.hid (F5.out.more (Frm.of_below hbx g _ _))
            clear C0 C1 K5 KN5 O5 F5 hbx hho
            go_upto_region 18 with fail
            have M6 : Hid (Mid w wx g N 75 39 #[.slice (some ⟨bl, ol, none⟩) n lc, .slice (some ⟨bg, og, none⟩) n gc, .int .i64 most, .int .i64 share, .int .i64 sl, .slice a1 i b1, .slice a2 i b2, .int .i64 sum, .int .i64 sc, u3, .int .i64 sle] #[.int .i64 p, .int .i64 ln, .int .i64 z, .int .i64 s] (.slice A1 i c1) (.slice A2 i c2) (.slice a1 i b1) (.slice a2 i b2) u3 given tens sbs) := Lib.hid ⟨K6, KN6.out, O6, F6.out, N1.out, N2.out⟩
            clear K6 KN6 O6 F6 hd
            obtain ⟨m, hm⟩ : ∃ m, m = i + 1 := ⟨_, rfl⟩
            have HM := Lib.hid hm
            clear hm
            go_cut [] from 111 to 139 (fun wz => ∃ (q1 e1 q2 e2 : Nat), Hid (Mid w wz g N 75 39 #[.slice (some ⟨bl, ol, none⟩) n lc, .slice (some ⟨bg, og, none⟩) n gc, .int .i64 most, .int .i64 share, .int .i64 sl, .slice (some ⟨q1, 0, none⟩) m e1, .slice (some ⟨q2, 0, none⟩) m e2, .int .i64 (sum + t), .int .i64 sc, u3, .int .i64 sle] #[.int .i64 p, .int .i64 ln, .int .i64 z, .int .i64 s] (.slice A1 i c1) (.slice A2 i c2) (.slice (some ⟨q1, 0, none⟩) m e1) (.slice (some ⟨q2, 0, none⟩) m e2) u3 (given ++ [z]) (tens ++ [t]) sbs))
            case first =>
              refine wp_region_S (S18 g 5 6 7 (.slice a1 i b1) (.slice a2 i b2) (.int .i64 sum)) 25 (by kernel_rfl) ?_
              have M7 := Lib.hid M6.out.drew
              generalize wx.drew = wd at M7 ⊢
              have HS : S18 g 5 6 7 (.slice a1 i b1) (.slice a2 i b2) (.int .i64 sum) wd := ⟨M7.out.k.cell 5, M7.out.k.cell 6, M7.out.k.cell 7⟩
              (refine wpAnyS_take0 0 ?_ rfl (by kernel_rfl) (by kernel_rfl) (by kernel_rfl) (by kernel_rfl) (fun _ _ _ h => h) (by rfl) ?_ (fun _ => HS) ?_; rotate_left; (· (intro w; go_simp; (try with_reducible rfl))); try simp only [Act.put, List.setIfInBounds_toArray, List.set_cons_zero, List.set_cons_succ])
              (refine wpAnyS_take0 1 ?_ rfl (by kernel_rfl) (by kernel_rfl) (by kernel_rfl) (by kernel_rfl) (fun _ _ _ h => h) (by rfl) ?_ (fun _ => HS) ?_; rotate_left; (· (intro w; go_simp; (try with_reducible rfl))); try simp only [Act.put, List.setIfInBounds_toArray, List.set_cons_zero, List.set_cons_succ])
              (refine wpAnyS_take0 2 ?_ rfl (by kernel_rfl) (by kernel_rfl) (by kernel_rfl) (by kernel_rfl) (fun _ _ _ h => h) (by rfl) ?_ (fun _ => HS) ?_; rotate_left; (· (intro w; go_simp; (try with_reducible rfl))); try simp only [Act.put, List.setIfInBounds_toArray, List.set_cons_zero, List.set_cons_succ])
              (refine wpAnyS_take0 3 ?_ rfl (by kernel_rfl) (by kernel_rfl) (by kernel_rfl) (by kernel_rfl) (fun _ _ _ h => h) (by rfl) ?_ (fun _ => HS) ?_; rotate_left; (· (intro w; go_simp; (try with_reducible rfl))); try simp only [Act.put, List.setIfInBounds_toArray, List.set_cons_zero, List.set_cons_succ])
              (refine wpAnyS_take0 4 ?_ rfl (by kernel_rfl) (by kernel_rfl) (by kernel_rfl) (by kernel_rfl) (fun _ _ _ h => h) (by rfl) ?_ (fun _ => HS) ?_; rotate_left; (· (intro w; go_simp; (try with_reducible rfl))); try simp only [Act.put, List.setIfInBounds_toArray, List.set_cons_zero, List.set_cons_succ])
              (refine wpAnyS_take0 5 ?_ rfl (by kernel_rfl) (by kernel_rfl) (by kernel_rfl) (by kernel_rfl) (fun _ _ _ h => h) (by rfl) ?_ (fun _ => HS) ?_; rotate_left; (· (intro w; go_simp; (try with_reducible rfl))); try simp only [Act.put, List.setIfInBounds_toArray, List.set_cons_zero, List.set_cons_succ])
              (refine wpAnyS_take 6 ?_ rfl (by kernel_rfl) (by kernel_rfl) (by kernel_rfl) (by kernel_rfl) (by kernel_rfl) (by kernel_rfl) (fun _ _ _ h => h) (by rfl) ?_ HS ?_; rotate_left; (· (intro w hSw; obtain ⟨s1, s2, s3⟩ := hSw; go_simp; (try with_reducible rfl))); try simp only [Act.put, List.setIfInBounds_toArray, List.set_cons_zero, List.set_cons_succ])
              (refine wpAnyS_take0 7 ?_ rfl (by kernel_rfl) (by kernel_rfl) (by kernel_rfl) (by kernel_rfl) (fun _ _ _ h => h) (by rfl) ?_ (fun _ => HS) ?_; rotate_left; (· (intro w; go_simp; (try with_reducible rfl))); try simp only [Act.put, List.setIfInBounds_toArray, List.set_cons_zero, List.set_cons_succ])
              (refine wpAnyS_take0 10 ?_ rfl (by kernel_rfl) (by kernel_rfl) (by kernel_rfl) (by kernel_rfl) (fun _ _ _ h => h) (by rfl) ?_ (fun _ => HS) ?_; rotate_left; (· (intro w; go_simp; (try with_reducible rfl))); try simp only [Act.put, List.setIfInBounds_toArray, List.set_cons_zero, List.set_cons_succ])
              (refine wpAnyS_take0 11 ?_ rfl (by kernel_rfl) (by kernel_rfl) (by kernel_rfl) (by kernel_rfl) (fun _ _ _ h => h) (by rfl) ?_ (fun _ => HS) ?_; rotate_left; (· (intro w; go_simp; (try with_reducible rfl))); try simp only [Act.put, List.setIfInBounds_toArray, List.set_cons_zero, List.set_cons_succ])
              (refine wpAnyS_take0 12 ?_ rfl (by kernel_rfl) (by kernel_rfl) (by kernel_rfl) (by kernel_rfl) (fun _ _ _ h => h) (by rfl) ?_ (fun _ => HS) ?_; rotate_left; (· (intro w; go_simp; (try with_reducible rfl))); try simp only [Act.put, List.setIfInBounds_toArray, List.set_cons_zero, List.set_cons_succ])
              (refine wpAnyS_take 13 ?_ rfl (by kernel_rfl) (by kernel_rfl) (by kernel_rfl) (by kernel_rfl) (by kernel_rfl) (by kernel_rfl) (fun _ _ _ h => h) (by rfl) ?_ HS ?_; rotate_left; (· (intro w hSw; obtain ⟨s1, s2, s3⟩ := hSw; go_simp; (try with_reducible rfl))); try simp only [Act.put, List.setIfInBounds_toArray, List.set_cons_zero, List.set_cons_succ])
              (refine wpAnyS_take0 14 ?_ rfl (by kernel_rfl) (by kernel_rfl) (by kernel_rfl) (by kernel_rfl) (fun _ _ _ h => h) (by rfl) ?_ (fun _ => HS) ?_; rotate_left; (· (intro w; go_simp; (try with_reducible rfl))); try simp only [Act.put, List.setIfInBounds_toArray, List.set_cons_zero, List.set_cons_succ])
              (refine wpAnyS_take0 17 ?_ rfl (by kernel_rfl) (by kernel_rfl) (by kernel_rfl) (by kernel_rfl) (fun _ _ _ h => h) (by rfl) ?_ (fun _ => HS) ?_; rotate_left; (· (intro w; go_simp; (try with_reducible rfl))); try simp only [Act.put, List.setIfInBounds_toArray, List.set_cons_zero, List.set_cons_succ])
              (refine wpAnyS_take0 18 ?_ rfl (by kernel_rfl) (by kernel_rfl) (by kernel_rfl) (by kernel_rfl) (fun _ _ _ h => h) (by rfl) ?_ (fun _ => HS) ?_; rotate_left; (· (intro w; go_simp; (try with_reducible rfl))); try simp only [Act.put, List.setIfInBounds_toArray, List.set_cons_zero, List.set_cons_succ])
              (refine wpAnyS_take0 19 ?_ rfl (by kernel_rfl) (by kernel_rfl) (by kernel_rfl) (by kernel_rfl) (fun _ _ _ h => h) (by rfl) ?_ (fun _ => HS) ?_; rotate_left; (· (intro w; go_simp; (try with_reducible rfl))); try simp only [Act.put, List.setIfInBounds_toArray, List.set_cons_zero, List.set_cons_succ])
              (refine wpAnyS_take 20 ?_ rfl (by kernel_rfl) (by kernel_rfl) (by kernel_rfl) (by kernel_rfl) (by kernel_rfl) (by kernel_rfl) (fun _ _ _ h => h) (by rfl) ?_ HS ?_; rotate_left; (· (intro w hSw; obtain ⟨s1, s2, s3⟩ := hSw; go_simp; (try with_reducible rfl))); try simp only [Act.put, List.setIfInBounds_toArray, List.set_cons_zero, List.set_cons_succ])
              (refine wpAnyS_take0 21 ?_ rfl (by kernel_rfl) (by kernel_rfl) (by kernel_rfl) (by kernel_rfl) (fun _ _ _ h => h) (by rfl) ?_ (fun _ => HS) ?_; rotate_left; (· (intro w; go_simp; (try with_reducible rfl))); try simp only [Act.put, List.setIfInBounds_toArray, List.set_cons_zero, List.set_cons_succ])
              (refine wpAnyS_take0 22 ?_ rfl (by kernel_rfl) (by kernel_rfl) (by kernel_rfl) (by kernel_rfl) (fun _ _ _ h => h) (by rfl) ?_ (fun _ => HS) ?_; rotate_left; (· (intro w; go_simp; (try with_reducible rfl))); try simp only [Act.put, List.setIfInBounds_toArray, List.set_cons_zero, List.set_cons_succ])
              refine wpAnyS_two 8 15 rfl rfl (by kernel_rfl) (by rfl) (by rfl) ?_ ?_
              · intro K hK
                go_simp
                have M8 := Lib.hid (M7.out.alloc (.cells #[.int .i64 z] 2))
                have B8 := Lib.hid (Blk.new wd 2 #[.int .i64 z])
                refine hK _ _ (fun _ => ⟨M8.out.k.cell 5, M8.out.k.cell 6, M8.out.k.cell 7⟩) ?_
                clear hK
                have N8 : ∀ k, Value.ownBlock (.slice a1 i b1) = some k → k < wd.heap.size := fun k hk => (M7.out.o.o1.lt k hk).2
                generalize hw8 : wd.alloc (.cells #[.int .i64 z] 2) = w8 at M8 B8 ⊢
                have S8 : Hid (w8.heap.size = wd.heap.size + 1) := Lib.hid (by rw [← hw8]; simp)
                clear hw8
                refine wpAnyS_two 9 15 rfl rfl (by kernel_rfl) (by rfl) (by rfl) ?_ ?_
                · intro K hK
                  refine stepApp1 (.tmp 117) (.tmp 119) rfl (g + 1) (.slice a1 i b1) i m HM.out given z rfl M8.out.o.o1 Q1.out wd.heap.size rfl B8.out (by have := M8.out.k.lt; omega) (by omega) ?_
                  intro q1 e1 w9 o9 g9 l9
                  have M9 := Lib.hid (M8.out.app1 (by decide) (by decide) o9 g9 l9)
                  try simp only [Act.put, List.setIfInBounds_toArray, List.set_cons_zero, List.set_cons_succ]
                  refine hK _ _ (fun _ => ⟨M9.out.k.cell 5, M9.out.k.cell 6, M9.out.k.cell 7⟩) ?_
                  clear hK M8 B8
                  refine wpAnyS_one 15 rfl (by kernel_rfl) (by rfl) ?_
                  intro K hK
                  go_simp
                  have M15 := Lib.hid (M9.out.alloc (.cells #[.int .i64 t] 2))
                  have B15 := Lib.hid (Blk.new w9 2 #[.int .i64 t])
                  refine hK _ _ (fun _ => ⟨M15.out.k.cell 5, M15.out.k.cell 6, M15.out.k.cell 7⟩) ?_
                  clear hK
                  generalize w9.alloc (.cells #[.int .i64 t] 2) = w15 at M15 B15 ⊢
                  refine wpAnyS_one 16 rfl (by kernel_rfl) (by rfl) ?_
                  intro K hK
                  refine stepApp1 (.tmp 124) (.tmp 126) rfl (g + 1) (.slice a2 i b2) i m HM.out tens t rfl M15.out.o.o2 Q2.out w9.heap.size rfl B15.out (by have := M15.out.k.lt; omega) (by omega) ?_
                  intro q2 e2 w16 o9 g9 l9
                  have M16 := Lib.hid (M15.out.app2 (by decide) (by decide) o9 g9 l9)
                  try simp only [Act.put, List.setIfInBounds_toArray, List.set_cons_zero, List.set_cons_succ]
                  refine hK _ _ (fun _ => ⟨M16.out.k.cell 5, M16.out.k.cell 6, M16.out.k.cell 7⟩) ?_
                  clear hK
                  have HS : S18 g 5 6 7 (.slice a1 i b1) (.slice a2 i b2) (.int .i64 sum) w16 := ⟨M16.out.k.cell 5, M16.out.k.cell 6, M16.out.k.cell 7⟩
                  (refine wpAnyS_take0 23 ?_ rfl (by kernel_rfl) (by kernel_rfl) (by kernel_rfl) (by kernel_rfl) (fun _ _ _ h => h) (by rfl) ?_ (fun _ => HS) ?_; rotate_left; (· (intro w; go_simp; (try with_reducible rfl))); try simp only [Act.put, List.setIfInBounds_toArray, List.set_cons_zero, List.set_cons_succ])
                  (refine wpAnyS_take0 24 ?_ rfl (by kernel_rfl) (by kernel_rfl) (by kernel_rfl) (by kernel_rfl) (fun _ _ _ h => h) (by rfl) ?_ (fun _ => HS) ?_; rotate_left; (· (intro w; go_simp; (try with_reducible rfl))); try simp only [Act.put, List.setIfInBounds_toArray, List.set_cons_zero, List.set_cons_succ])
                  refine wpAnyS_one 25 rfl (by kernel_rfl) (by rfl) ?_
                  intro K hK
                  have cc := M16.out.k.cell 5
                  have ff := M16.out.k.frozen 5
                  simp at cc
                  go_simp
                  have MS25 := Lib.hid (M16.out.store hgN 5 (.slice (some ⟨q1, 0, none⟩) m e1))
                  refine hK _ _ (fun h => absurd h (by decide +kernel)) ?_
                  clear hK cc ff
                  generalize World.setCell w16 ⟨g, 5, none⟩ (.slice (some ⟨q1, 0, none⟩) m e1) = ws25 at MS25 ⊢
                  (refine wpAnyS_take0 26 ?_ rfl (by kernel_rfl) (by kernel_rfl) (by kernel_rfl) (by kernel_rfl) (fun _ _ _ h => h) (by rfl) ?_ (fun h => absurd h (by decide +kernel)) ?_; rotate_left; (· (intro w; go_simp; (try with_reducible rfl))); try simp only [Act.put, List.setIfInBounds_toArray, List.set_cons_zero, List.set_cons_succ])
                  (refine wpAnyS_take0 27 ?_ rfl (by kernel_rfl) (by kernel_rfl) (by kernel_rfl) (by kernel_rfl) (fun _ _ _ h => h) (by rfl) ?_ (fun h => absurd h (by decide +kernel)) ?_; rotate_left; (· (intro w; go_simp; (try with_reducible rfl))); try simp only [Act.put, List.setIfInBounds_toArray, List.set_cons_zero, List.set_cons_succ])
                  refine wpAnyS_one 28 rfl (by kernel_rfl) (by rfl) ?_
                  intro K hK
                  have cc := MS25.out.k.cell 6
                  have ff := MS25.out.k.frozen 6
                  simp at cc
                  go_simp
                  have MS28 := Lib.hid (MS25.out.store hgN 6 (.slice (some ⟨q2, 0, none⟩) m e2))
                  refine hK _ _ (fun h => absurd h (by decide +kernel)) ?_
                  clear hK cc ff
                  generalize World.setCell ws25 ⟨g, 6, none⟩ (.slice (some ⟨q2, 0, none⟩) m e2) = ws28 at MS28 ⊢
                  (refine wpAnyS_take0 29 ?_ rfl (by kernel_rfl) (by kernel_rfl) (by kernel_rfl) (by kernel_rfl) (fun _ _ _ h => h) (by rfl) ?_ (fun h => absurd h (by decide +kernel)) ?_; rotate_left; (· (intro w; go_simp; (try with_reducible rfl))); try simp only [Act.put, List.setIfInBounds_toArray, List.set_cons_zero, List.set_cons_succ])
                  (refine wpAnyS_take0 30 ?_ rfl (by kernel_rfl) (by kernel_rfl) (by kernel_rfl) (by kernel_rfl) (fun _ _ _ h => h) (by rfl) ?_ (fun h => absurd h (by decide +kernel)) ?_; rotate_left; (· (intro w; go_simp; (try with_reducible rfl))); try simp only [Act.put, List.setIfInBounds_toArray, List.set_cons_zero, List.set_cons_succ])
                  refine wpAnyS_one 31 rfl (by kernel_rfl) (by rfl) ?_
                  intro K hK
                  have cc := MS28.out.k.cell 7
                  have ff := MS28.out.k.frozen 7
                  simp at cc
                  go_simp
                  have MS31 := Lib.hid (MS28.out.store hgN 7 (.int .i64 (sum + t)))
                  refine hK _ _ (fun h => absurd h (by decide +kernel)) ?_
                  clear hK cc ff
                  generalize World.setCell ws28 ⟨g, 7, none⟩ (.int .i64 (sum + t)) = ws31 at MS31 ⊢
                  refine wpAnyS_done (by kernel_rfl) ?_
                  go_wp2_with fail
                  go_meet
                  exact ⟨q1, e1, q2, e2, Lib.hid (by have := MS31.out; simpa using this)⟩
                · intro K hK
                  go_simp
                  have M15 := Lib.hid (M8.out.alloc (.cells #[.int .i64 t] 2))
                  have B15 := Lib.hid (Blk.new w8 2 #[.int .i64 t])
                  refine hK _ _ (fun _ => ⟨M15.out.k.cell 5, M15.out.k.cell 6, M15.out.k.cell 7⟩) ?_
                  clear hK
                  have B8' := Lib.hid (B8.out.alloc (.cells #[.int .i64 t] 2))
                  have N15 : ∀ k, Value.ownBlock (.slice a1 i b1) = some k → k < w8.heap.size := fun k hk => by have := N8 k hk; have := S8.out; omega
                  generalize hw15 : w8.alloc (.cells #[.int .i64 t] 2) = w15 at M15 B15 B8' ⊢
                  have S15 : Hid (w15.heap.size = w8.heap.size + 1) := Lib.hid (by rw [← hw15]; simp)
                  clear hw15
                  refine wpAnyS_one 9 rfl (by kernel_rfl) (by rfl) ?_
                  intro K hK
                  refine stepApp1 (.tmp 117) (.tmp 119) rfl (g + 1) (.slice a1 i b1) i m HM.out given z rfl M15.out.o.o1 Q1.out wd.heap.size rfl B8'.out (by have := M15.out.k.lt; omega) (by omega) ?_
                  intro q1 e1 w9 o9 g9 l9
                  have M9 := Lib.hid (M15.out.app1 (by decide) (by decide) o9 g9 l9)
                  have B15' := Lib.hid (B15.out.grown g9 (fun e => by have := N15 _ e.symm; omega))
                  try simp only [Act.put, List.setIfInBounds_toArray, List.set_cons_zero, List.set_cons_succ]
                  refine hK _ _ (fun _ => ⟨M9.out.k.cell 5, M9.out.k.cell 6, M9.out.k.cell 7⟩) ?_
                  clear hK
                  refine wpAnyS_one 16 rfl (by kernel_rfl) (by rfl) ?_
                  intro K hK
                  refine stepApp1 (.tmp 124) (.tmp 126) rfl (g + 1) (.slice a2 i b2) i m HM.out tens t rfl M9.out.o.o2 Q2.out w8.heap.size rfl B15'.out (by have := M9.out.k.lt; omega) (by omega) ?_
                  intro q2 e2 w16 o9 g9 l9
                  have M16 := Lib.hid (M9.out.app2 (by decide) (by decide) o9 g9 l9)
                  try simp only [Act.put, List.setIfInBounds_toArray, List.set_cons_zero, List.set_cons_succ]
                  refine hK _ _ (fun _ => ⟨M16.out.k.cell 5, M16.out.k.cell 6, M16.out.k.cell 7⟩) ?_
                  clear hK
                  have HS : S18 g 5 6 7 (.slice a1 i b1) (.slice a2 i b2) (.int .i64 sum) w16 := ⟨M16.out.k.cell 5, M16.out.k.cell 6, M16.out.k.cell 7⟩
                  (refine wpAnyS_take0 23 ?_ rfl (by kernel_rfl) (by kernel_rfl) (by kernel_rfl) (by kernel_rfl) (fun _ _ _ h => h) (by rfl) ?_ (fun _ => HS) ?_; rotate_left; (· (intro w; go_simp; (try with_reducible rfl))); try simp only [Act.put, List.setIfInBounds_toArray, List.set_cons_zero, List.set_cons_succ])
                  (refine wpAnyS_take0 24 ?_ rfl (by kernel_rfl) (by kernel_rfl) (by kernel_rfl) (by kernel_rfl) (fun _ _ _ h => h) (by rfl) ?_ (fun _ => HS) ?_; rotate_left; (· (intro w; go_simp; (try with_reducible rfl))); try simp only [Act.put, List.setIfInBounds_toArray, List.set_cons_zero, List.set_cons_succ])
                  refine wpAnyS_one 25 rfl (by kernel_rfl) (by rfl) ?_
                  intro K hK
                  have cc := M16.out.k.cell 5
                  have ff := M16.out.k.frozen 5
                  simp at cc
                  go_simp
                  have MS25 := Lib.hid (M16.out.store hgN 5 (.slice (some ⟨q1, 0, none⟩) m e1))
                  refine hK _ _ (fun h => absurd h (by decide +kernel)) ?_
                  clear hK cc ff
                  generalize World.setCell w16 ⟨g, 5, none⟩ (.slice (some ⟨q1, 0, none⟩) m e1) = ws25 at MS25 ⊢
                  (refine wpAnyS_take0 26 ?_ rfl (by kernel_rfl) (by kernel_rfl) (by kernel_rfl) (by kernel_rfl) (fun _ _ _ h => h) (by rfl) ?_ (fun h => absurd h (by decide +kernel)) ?_; rotate_left; (· (intro w; go_simp; (try with_reducible rfl))); try simp only [Act.put, List.setIfInBounds_toArray, List.set_cons_zero, List.set_cons_succ])
                  (refine wpAnyS_take0 27 ?_ rfl (by kernel_rfl) (by kernel_rfl) (by kernel_rfl) (by kernel_rfl) (fun _ _ _ h => h) (by rfl) ?_ (fun h => absurd h (by decide +kernel)) ?_; rotate_left; (· (intro w; go_simp; (try with_reducible rfl))); try simp only [Act.put, List.setIfInBounds_toArray, List.set_cons_zero, List.set_cons_succ])
                  refine wpAnyS_one 28 rfl (by kernel_rfl) (by rfl) ?_
                  intro K hK
                  have cc := MS25.out.k.cell 6
                  have ff := MS25.out.k.frozen 6
                  simp at cc
                  go_simp
                  have MS28 := Lib.hid (MS25.out.store hgN 6 (.slice (some ⟨q2, 0, none⟩) m e2))
                  refine hK _ _ (fun h => absurd h (by decide +kernel)) ?_
                  clear hK cc ff
                  generalize World.setCell ws25 ⟨g, 6, none⟩ (.slice (some ⟨q2, 0, none⟩) m e2) = ws28 at MS28 ⊢
                  (refine wpAnyS_take0 29 ?_ rfl (by kernel_rfl) (by kernel_rfl) (by kernel_rfl) (by kernel_rfl) (fun _ _ _ h => h) (by rfl) ?_ (fun h => absurd h (by decide +kernel)) ?_; rotate_left; (· (intro w; go_simp; (try with_reducible rfl))); try simp only [Act.put, List.setIfInBounds_toArray, List.set_cons_zero, List.set_cons_succ])
                  (refine wpAnyS_take0 30 ?_ rfl (by kernel_rfl) (by kernel_rfl) (by kernel_rfl) (by kernel_rfl) (fun _ _ _ h => h) (by rfl) ?_ (fun h => absurd h (by decide +kernel)) ?_; rotate_left; (· (intro w; go_simp; (try with_reducible rfl))); try simp only [Act.put, List.setIfInBounds_toArray, List.set_cons_zero, List.set_cons_succ])
                  refine wpAnyS_one 31 rfl (by kernel_rfl) (by rfl) ?_
                  intro K hK
                  have cc := MS28.out.k.cell 7
                  have ff := MS28.out.k.frozen 7
                  simp at cc
                  go_simp
                  have MS31 := Lib.hid (MS28.out.store hgN 7 (.int .i64 (sum + t)))
                  refine hK _ _ (fun h => absurd h (by decide +kernel)) ?_
                  clear hK cc ff
                  generalize World.setCell ws28 ⟨g, 7, none⟩ (.int .i64 (sum + t)) = ws31 at MS31 ⊢
                  refine wpAnyS_done (by kernel_rfl) ?_
                  go_wp2_with fail
                  go_meet
                  exact ⟨q1, e1, q2, e2, Lib.hid (by have := MS31.out; simpa using this)⟩
              · intro K hK
                go_simp
                have M15 := Lib.hid (M7.out.alloc (.cells #[.int .i64 t] 2))
                have B15 := Lib.hid (Blk.new wd 2 #[.int .i64 t])
                refine hK _ _ (fun _ => ⟨M15.out.k.cell 5, M15.out.k.cell 6, M15.out.k.cell 7⟩) ?_
                clear hK
                have N15 : ∀ k, Value.ownBlock (.slice a1 i b1) = some k → k < wd.heap.size := fun k hk => (M7.out.o.o1.lt k hk).2
                generalize hw15 : wd.alloc (.cells #[.int .i64 t] 2) = w15 at M15 B15 ⊢
                have S15 : Hid (w15.heap.size = wd.heap.size + 1) := Lib.hid (by rw [← hw15]; simp)
                clear hw15
                refine wpAnyS_one 8 rfl (by kernel_rfl) (by rfl) ?_
                intro K hK
                go_simp
                have M8 := Lib.hid (M15.out.alloc (.cells #[.int .i64 z] 2))
                have B8 := Lib.hid (Blk.new w15 2 #[.int .i64 z])
                refine hK _ _ (fun _ => ⟨M8.out.k.cell 5, M8.out.k.cell 6, M8.out.k.cell 7⟩) ?_
                clear hK
                have B15' := Lib.hid (B15.out.alloc (.cells #[.int .i64 z] 2))
                generalize w15.alloc (.cells #[.int .i64 z] 2) = w8 at M8 B8 B15' ⊢
                refine wpAnyS_one 9 rfl (by kernel_rfl) (by rfl) ?_
                intro K hK
                refine stepApp1 (.tmp 117) (.tmp 119) rfl (g + 1) (.slice a1 i b1) i m HM.out given z rfl M8.out.o.o1 Q1.out w15.heap.size rfl B8.out (by have := M8.out.k.lt; omega) (by omega) ?_
                intro q1 e1 w9 o9 g9 l9
                have M9 := Lib.hid (M8.out.app1 (by decide) (by decide) o9 g9 l9)
                have B15'' := Lib.hid (B15'.out.grown g9 (fun e => by have := N15 _ e.symm; omega))
                try simp only [Act.put, List.setIfInBounds_toArray, List.set_cons_zero, List.set_cons_succ]
                refine hK _ _ (fun _ => ⟨M9.out.k.cell 5, M9.out.k.cell 6, M9.out.k.cell 7⟩) ?_
                clear hK
                refine wpAnyS_one 16 rfl (by kernel_rfl) (by rfl) ?_
                intro K hK
                refine stepApp1 (.tmp 124) (.tmp 126) rfl (g + 1) (.slice a2 i b2) i m HM.out tens t rfl M9.out.o.o2 Q2.out wd.heap.size rfl B15''.out (by have := M9.out.k.lt; omega) (by omega) ?_
                intro q2 e2 w16 o9 g9 l9
                have M16 := Lib.hid (M9.out.app2 (by decide) (by decide) o9 g9 l9)
                try simp only [Act.put, List.setIfInBounds_toArray, List.set_cons_zero, List.set_cons_succ]
                refine hK _ _ (fun _ => ⟨M16.out.k.cell 5, M16.out.k.cell 6, M16.out.k.cell 7⟩) ?_
                clear hK
                have HS : S18 g 5 6 7 (.slice a1 i b1) (.slice a2 i b2) (.int .i64 sum) w16 := ⟨M16.out.k.cell 5, M16.out.k.cell 6, M16.out.k.cell 7⟩
                (refine wpAnyS_take0 23 ?_ rfl (by kernel_rfl) (by kernel_rfl) (by kernel_rfl) (by kernel_rfl) (fun _ _ _ h => h) (by rfl) ?_ (fun _ => HS) ?_; rotate_left; (· (intro w; go_simp; (try with_reducible rfl))); try simp only [Act.put, List.setIfInBounds_toArray, List.set_cons_zero, List.set_cons_succ])
                (refine wpAnyS_take0 24 ?_ rfl (by kernel_rfl) (by kernel_rfl) (by kernel_rfl) (by kernel_rfl) (fun _ _ _ h => h) (by rfl) ?_ (fun _ => HS) ?_; rotate_left; (· (intro w; go_simp; (try with_reducible rfl))); try simp only [Act.put, List.setIfInBounds_toArray, List.set_cons_zero, List.set_cons_succ])
                refine wpAnyS_one 25 rfl (by kernel_rfl) (by rfl) ?_
                intro K hK
                have cc := M16.out.k.cell 5
                have ff := M16.out.k.frozen 5
                simp at cc
                go_simp
                have MS25 := Lib.hid (M16.out.store hgN 5 (.slice (some ⟨q1, 0, none⟩) m e1))
                refine hK _ _ (fun h => absurd h (by decide +kernel)) ?_
                clear hK cc ff
                generalize World.setCell w16 ⟨g, 5, none⟩ (.slice (some ⟨q1, 0, none⟩) m e1) = ws25 at MS25 ⊢
                (refine wpAnyS_take0 26 ?_ rfl (by kernel_rfl) (by kernel_rfl) (by kernel_rfl) (by kernel_rfl) (fun _ _ _ h => h) (by rfl) ?_ (fun h => absurd h (by decide +kernel)) ?_; rotate_left; (· (intro w; go_simp; (try with_reducible rfl))); try simp only [Act.put, List.setIfInBounds_toArray, List.set_cons_zero, List.set_cons_succ])
                (refine wpAnyS_take0 27 ?_ rfl (by kernel_rfl) (by kernel_rfl) (by kernel_rfl) (by kernel_rfl) (fun _ _ _ h => h) (by rfl) ?_ (fun h => absurd h (by decide +kernel)) ?_; rotate_left; (· (intro w; go_simp; (try with_reducible rfl))); try simp only [Act.put, List.setIfInBounds_toArray, List.set_cons_zero, List.set_cons_succ])
                refine wpAnyS_one 28 rfl (by kernel_rfl) (by rfl) ?_
                intro K hK
                have cc := MS25.out.k.cell 6
                have ff := MS25.out.k.frozen 6
                simp at cc
                go_simp
                have MS28 := Lib.hid (MS25.out.store hgN 6 (.slice (some ⟨q2, 0, none⟩) m e2))
                refine hK _ _ (fun h => absurd h (by decide +kernel)) ?_
                clear hK cc ff
                generalize World.setCell ws25 ⟨g, 6, none⟩ (.slice (some ⟨q2, 0, none⟩) m e2) = ws28 at MS28 ⊢
                (refine wpAnyS_take0 29 ?_ rfl (by kernel_rfl) (by kernel_rfl) (by kernel_rfl) (by kernel_rfl) (fun _ _ _ h => h) (by rfl) ?_ (fun h => absurd h (by decide +kernel)) ?_; rotate_left; (· (intro w; go_simp; (try with_reducible rfl))); try simp only [Act.put, List.setIfInBounds_toArray, List.set_cons_zero, List.set_cons_succ])
                (refine wpAnyS_take0 30 ?_ rfl (by kernel_rfl) (by kernel_rfl) (by kernel_rfl) (by kernel_rfl) (fun _ _ _ h => h) (by rfl) ?_ (fun h => absurd h (by decide +kernel)) ?_; rotate_left; (· (intro w; go_simp; (try with_reducible rfl))); try simp only [Act.put, List.setIfInBounds_toArray, List.set_cons_zero, List.set_cons_succ])
                refine wpAnyS_one 31 rfl (by kernel_rfl) (by rfl) ?_
                intro K hK
                have cc := MS28.out.k.cell 7
                have ff := MS28.out.k.frozen 7
                simp at cc
                go_simp
                have MS31 := Lib.hid (MS28.out.store hgN 7 (.int .i64 (sum + t)))
                refine hK _ _ (fun h => absurd h (by decide +kernel)) ?_
                clear hK cc ff
                generalize World.setCell ws28 ⟨g, 7, none⟩ (.int .i64 (sum + t)) = ws31 at MS31 ⊢
                refine wpAnyS_done (by kernel_rfl) ?_
                go_wp2_with fail
                go_meet
                exact ⟨q1, e1, q2, e2, Lib.hid (by have := MS31.out; simpa using this)⟩
            case rest =>
              obtain ⟨q1, f1, q2, f2, M8⟩ := hcut
              have BWc : Below g w wc := M8.out.f.below hgw (fun j hj => by have := O10.out j hj; omega) (fun j hj => by have := O20.out j hj; omega)
              obtain ⟨r, hr⟩ : ∃ r, r = srch cs gs most share d (given ++ [z]) (tens ++ [t]) (sum + t) ⟨sl, sc, sbs, sle⟩ := ⟨_, rfl⟩
              have CI := IHH.out wc (given ++ [z]) (tens ++ [t]) (sum + t) ⟨sl, sc, sbs, sle⟩ (.slice (some ⟨q1, 0, none⟩) m f1) (.slice (some ⟨q2, 0, none⟩) m f2) u3 ⟨by have := QD.out; rw [List.length_append, Q1.out]; simp; omega, by simp [Q1.out, Q2.out], ⟨M8.out.k, M8.out.o⟩, HR.out.below BWc, HG.out.belowB BWc, tsOk_add HT.out tb.1 tb.2, by have := QS.out; rw [List.length_append, Q1.out]; simp; omega, CLH⟩
              rw [← hr] at CI
              have HRR := Lib.hid hr
              clear hr
              go_wp2_with fail
              refine CI.mono ?_
              rintro e9 w9 ⟨st', x1, x2, x3, rfl, hst, ⟨K9, O9⟩, F9, N9, N9'⟩
              have KN9 := Lib.hid (F9.blk M8.out.kn (by omega) (own_ne M8.out.o.o1 M8.out.kn (by decide)) (own_ne M8.out.o.o2 M8.out.kn (by decide)))
              have FF9 := Lib.hid (M8.out.f.trans F9 M8.out.n1 M8.out.n2)
              have NN1 := Lib.hid (M8.out.n1.trans N9 M8.out.f.size)
              have NN2 := Lib.hid (M8.out.n2.trans N9' M8.out.f.size)
              have ST := Lib.hid hst
              obtain ⟨y1, d1, rfl⟩ := own_val O9.o1
              obtain ⟨y2, d2, rfl⟩ := own_val O9.o2
              rw [show (given ++ [z]).length = m by rw [List.length_append, Q1.out, HM.out]; rfl] at K9 O9 NN1
              rw [show (tens ++ [t]).length = m by rw [List.length_append, Q2.out, HM.out]; rfl] at K9 O9 NN2
              have p1 : w9.ownsRow (g + 1) 2 1 (.slice y1 i d1) given.length (iv given) := by
                have := O9.o1
                rw [List.length_append, Q1.out, iv_append] at this
                rw [HM.out] at this
                rw [Q1.out]; exact own_cut this
              have p2 : w9.ownsRow (g + 1) 2 1 (.slice y2 i d2) tens.length (iv tens) := by
                have := O9.o2
                rw [List.length_append, Q2.out, iv_append] at this
                rw [HM.out] at this
                rw [Q2.out]; exact own_cut this
              have cap1 : i ≤ d1 := by rw [Q1.out] at p1; exact own_cap p1
              have cap2 : i ≤ d2 := by rw [Q2.out] at p2; exact own_cap p2
              have O10' : Hid (Own3 w9 (g + 1) (.slice y1 i d1) (.slice y2 i d2) x3 given tens st'.best) := Lib.hid ⟨p1, p2, O9.o3, by rw [ob_len y1 i m, ob_len y2 i m]; exact O9.d12, by rw [ob_len y1 i m]; exact O9.d13, by rw [ob_len y2 i m]; exact O9.d23⟩
              have ws2 : IntKind.i64.wrap sum = sum := IntWalk.i64_in _ (by omega)
              have hc := K9.cell
              have hf := K9.frozen
              have K9 := Lib.hid K9
              clear O9 p1 p2 F9 N9 N9' hst CI M8 BWc ws
              go_upto_region 20 with fail
              refine wp_region_S (S18 g 5 6 7 (.slice y1 m d1) (.slice y2 m d2) (.int .i64 (sum + t))) 23 (by kernel_rfl) ?_
              have KD := Lib.hid (Blk.drew K9.out)
              have OD : Hid (Own3 w9.drew (g + 1) (.slice y1 i d1) (.slice y2 i d2) x3 given tens st'.best) := Lib.hid ⟨O10'.out.o1, O10'.out.o2, O10'.out.o3, O10'.out.d12, O10'.out.d13, O10'.out.d23⟩
              have FF9 : Hid (Frm w w9.drew g (.slice A1 i c1) (.slice A2 i c2)) := Lib.hid ⟨FF9.out.os, FF9.out.tape, FF9.out.output, FF9.out.size, FF9.out.block⟩
              have KN9 := Lib.hid (Blk.drew KN9.out)
              clear K9 O10' hc hf
              generalize w9.drew = wd at KD OD FF9 KN9 ⊢
              have HS : S18 g 5 6 7 (.slice y1 m d1) (.slice y2 m d2) (.int .i64 (sum + t)) wd := ⟨KD.out.cell 5, KD.out.cell 6, KD.out.cell 7⟩
              have im : i ≤ m := by have := HM.out; omega
              (refine wpAnyS_take0 0 ?_ rfl (by kernel_rfl) (by kernel_rfl) (by kernel_rfl) (by kernel_rfl) (fun _ _ _ h => h) (by rfl) ?_ (fun _ => HS) ?_; rotate_left; (· (intro w; go_simp; (try with_reducible rfl))); try simp only [Act.put, List.setIfInBounds_toArray, List.set_cons_zero, List.set_cons_succ])
              (refine wpAnyS_take0 1 ?_ rfl (by kernel_rfl) (by kernel_rfl) (by kernel_rfl) (by kernel_rfl) (fun _ _ _ h => h) (by rfl) ?_ (fun _ => HS) ?_; rotate_left; (· (intro w; go_simp; (try with_reducible rfl))); try simp only [Act.put, List.setIfInBounds_toArray, List.set_cons_zero, List.set_cons_succ])
              (refine wpAnyS_take0 2 ?_ rfl (by kernel_rfl) (by kernel_rfl) (by kernel_rfl) (by kernel_rfl) (fun _ _ _ h => h) (by rfl) ?_ (fun _ => HS) ?_; rotate_left; (· (intro w; go_simp; (try with_reducible rfl))); try simp only [Act.put, List.setIfInBounds_toArray, List.set_cons_zero, List.set_cons_succ])
              (refine wpAnyS_take0 3 ?_ rfl (by kernel_rfl) (by kernel_rfl) (by kernel_rfl) (by kernel_rfl) (fun _ _ _ h => h) (by rfl) ?_ (fun _ => HS) ?_; rotate_left; (· (intro w; go_simp; (try with_reducible rfl))); try simp only [Act.put, List.setIfInBounds_toArray, List.set_cons_zero, List.set_cons_succ])
              (refine wpAnyS_take0 4 ?_ rfl (by kernel_rfl) (by kernel_rfl) (by kernel_rfl) (by kernel_rfl) (fun _ _ _ h => h) (by rfl) ?_ (fun _ => HS) ?_; rotate_left; (· (intro w; go_simp; (try with_reducible rfl))); try simp only [Act.put, List.setIfInBounds_toArray, List.set_cons_zero, List.set_cons_succ])
              (refine wpAnyS_take0 5 ?_ rfl (by kernel_rfl) (by kernel_rfl) (by kernel_rfl) (by kernel_rfl) (fun _ _ _ h => h) (by rfl) ?_ (fun _ => HS) ?_; rotate_left; (· (intro w; go_simp; (try with_reducible rfl))); try simp only [Act.put, List.setIfInBounds_toArray, List.set_cons_zero, List.set_cons_succ])
              (refine wpAnyS_take 6 ?_ rfl (by kernel_rfl) (by kernel_rfl) (by kernel_rfl) (by kernel_rfl) (by kernel_rfl) (by kernel_rfl) (fun _ _ _ h => h) (by rfl) ?_ HS ?_; rotate_left; (· (intro w hSw; obtain ⟨s1, s2, s3⟩ := hSw; go_simp; (try with_reducible rfl))); try simp only [Act.put, List.setIfInBounds_toArray, List.set_cons_zero, List.set_cons_succ])
              (refine wpAnyS_take0 7 ?_ rfl (by kernel_rfl) (by kernel_rfl) (by kernel_rfl) (by kernel_rfl) (fun _ _ _ h => h) (by rfl) ?_ (fun _ => HS) ?_; rotate_left; (· (intro w; go_simp; (try with_reducible rfl))); try simp only [Act.put, List.setIfInBounds_toArray, List.set_cons_zero, List.set_cons_succ])
              (refine wpAnyS_take0 8 ?_ rfl (by kernel_rfl) (by kernel_rfl) (by kernel_rfl) (by kernel_rfl) (fun _ _ _ h => h) (by rfl) ?_ (fun _ => HS) ?_; rotate_left; (· (intro w; go_simp; (try with_reducible rfl))); try simp only [Act.put, List.setIfInBounds_toArray, List.set_cons_zero, List.set_cons_succ])
              (refine wpAnyS_take0 9 ?_ rfl (by kernel_rfl) (by kernel_rfl) (by kernel_rfl) (by kernel_rfl) (fun _ _ _ h => h) (by rfl) ?_ (fun _ => HS) ?_; rotate_left; (· (intro w; go_simp; (try with_reducible rfl))); try simp only [Act.put, List.setIfInBounds_toArray, List.set_cons_zero, List.set_cons_succ])
              (refine wpAnyS_take0 10 ?_ rfl (by kernel_rfl) (by kernel_rfl) (by kernel_rfl) (by kernel_rfl) (fun _ _ _ h => h) (by rfl) ?_ (fun _ => HS) ?_; rotate_left; (· (intro w; go_simp; (try with_reducible rfl))); try simp only [Act.put, List.setIfInBounds_toArray, List.set_cons_zero, List.set_cons_succ])
              (refine wpAnyS_take0 11 ?_ rfl (by kernel_rfl) (by kernel_rfl) (by kernel_rfl) (by kernel_rfl) (fun _ _ _ h => h) (by rfl) ?_ (fun _ => HS) ?_; rotate_left; (· (intro w; go_simp; (try with_reducible rfl))); try simp only [Act.put, List.setIfInBounds_toArray, List.set_cons_zero, List.set_cons_succ])
              (refine wpAnyS_take 12 ?_ rfl (by kernel_rfl) (by kernel_rfl) (by kernel_rfl) (by kernel_rfl) (by kernel_rfl) (by kernel_rfl) (fun _ _ _ h => h) (by rfl) ?_ HS ?_; rotate_left; (· (intro w hSw; obtain ⟨s1, s2, s3⟩ := hSw; go_simp; (try with_reducible rfl))); try simp only [Act.put, List.setIfInBounds_toArray, List.set_cons_zero, List.set_cons_succ])
              (refine wpAnyS_take0 13 ?_ rfl (by kernel_rfl) (by kernel_rfl) (by kernel_rfl) (by kernel_rfl) (fun _ _ _ h => h) (by rfl) ?_ (fun _ => HS) ?_; rotate_left; (· (intro w; go_simp; (try with_reducible rfl))); try simp only [Act.put, List.setIfInBounds_toArray, List.set_cons_zero, List.set_cons_succ])
              (refine wpAnyS_take0 14 ?_ rfl (by kernel_rfl) (by kernel_rfl) (by kernel_rfl) (by kernel_rfl) (fun _ _ _ h => h) (by rfl) ?_ (fun _ => HS) ?_; rotate_left; (· (intro w; go_simp; (try with_reducible rfl))); try simp only [Act.put, List.setIfInBounds_toArray, List.set_cons_zero, List.set_cons_succ])
              (refine wpAnyS_take0 15 ?_ rfl (by kernel_rfl) (by kernel_rfl) (by kernel_rfl) (by kernel_rfl) (fun _ _ _ h => h) (by rfl) ?_ (fun _ => HS) ?_; rotate_left; (· (intro w; go_simp; (try with_reducible rfl))); try simp only [Act.put, List.setIfInBounds_toArray, List.set_cons_zero, List.set_cons_succ])
              (refine wpAnyS_take0 16 ?_ rfl (by kernel_rfl) (by kernel_rfl) (by kernel_rfl) (by kernel_rfl) (fun _ _ _ h => h) (by rfl) ?_ (fun _ => HS) ?_; rotate_left; (· (intro w; go_simp; (try with_reducible rfl))); try simp only [Act.put, List.setIfInBounds_toArray, List.set_cons_zero, List.set_cons_succ])
              (refine wpAnyS_take0 17 ?_ rfl (by kernel_rfl) (by kernel_rfl) (by kernel_rfl) (by kernel_rfl) (fun _ _ _ h => h) (by rfl) ?_ (fun _ => HS) ?_; rotate_left; (· (intro w; go_simp; (try with_reducible rfl))); try simp only [Act.put, List.setIfInBounds_toArray, List.set_cons_zero, List.set_cons_succ])
              (refine wpAnyS_take 18 ?_ rfl (by kernel_rfl) (by kernel_rfl) (by kernel_rfl) (by kernel_rfl) (by kernel_rfl) (by kernel_rfl) (fun _ _ _ h => h) (by rfl) ?_ HS ?_; rotate_left; (· (intro w hSw; obtain ⟨s1, s2, s3⟩ := hSw; go_simp; (try with_reducible rfl))); try simp only [Act.put, List.setIfInBounds_toArray, List.set_cons_zero, List.set_cons_succ])
              (refine wpAnyS_take0 19 ?_ rfl (by kernel_rfl) (by kernel_rfl) (by kernel_rfl) (by kernel_rfl) (fun _ _ _ h => h) (by rfl) ?_ (fun _ => HS) ?_; rotate_left; (· (intro w; go_simp; (try with_reducible rfl))); try simp only [Act.put, List.setIfInBounds_toArray, List.set_cons_zero, List.set_cons_succ])
              (refine wpAnyS_take0 20 ?_ rfl (by kernel_rfl) (by kernel_rfl) (by kernel_rfl) (by kernel_rfl) (fun _ _ _ h => h) (by rfl) ?_ (fun _ => HS) ?_; rotate_left; (· (intro w; go_simp; (try with_reducible rfl))); try simp only [Act.put, List.setIfInBounds_toArray, List.set_cons_zero, List.set_cons_succ])
              (refine wpAnyS_take0 21 ?_ rfl (by kernel_rfl) (by kernel_rfl) (by kernel_rfl) (by kernel_rfl) (fun _ _ _ h => h) (by rfl) ?_ (fun _ => HS) ?_; rotate_left; (· (intro w; go_simp; (try with_reducible rfl))); try simp only [Act.put, List.setIfInBounds_toArray, List.set_cons_zero, List.set_cons_succ])
              (refine wpAnyS_take0 22 ?_ rfl (by kernel_rfl) (by kernel_rfl) (by kernel_rfl) (by kernel_rfl) (fun _ _ _ h => h) (by rfl) ?_ (fun _ => HS) ?_; rotate_left; (· (intro w; go_simp; (try with_reducible rfl))); try simp only [Act.put, List.setIfInBounds_toArray, List.set_cons_zero, List.set_cons_succ])
              refine wpAnyS_one 23 rfl (by kernel_rfl) (by rfl) ?_
              intro K hK
              have cc := KD.out.cell 5
              have ff := KD.out.frozen 5
              simp at cc
              go_simp
              have KS1 := Lib.hid (KD.out.set_ 5 (.slice y1 i d1))
              have OS1 := Lib.hid (OD.out.setb (p := ⟨g, 5, none⟩) (by simp) (.slice y1 i d1))
              have FF9 := Lib.hid (FF9.out.trans (Frm.setg wd g 5 (.slice y1 i d1) _ _) (Nw.refl _ _) (Nw.refl _ _))
              have KN9 := Lib.hid (KN9.out.far (p := ⟨g, 5, none⟩) (by show N ≠ g; omega) (.slice y1 i d1))
              refine hK _ _ (fun h => absurd h (by decide +kernel)) ?_
              clear hK cc ff
              generalize World.setCell wd ⟨g, 5, none⟩ (.slice y1 i d1) = ws1 at KS1 OS1 FF9 KN9 ⊢
              (refine wpAnyS_take0 24 ?_ rfl (by kernel_rfl) (by kernel_rfl) (by kernel_rfl) (by kernel_rfl) (fun _ _ _ h => h) (by rfl) ?_ (fun h => absurd h (by decide +kernel)) ?_; rotate_left; (· (intro w; go_simp; (try with_reducible rfl))); try simp only [Act.put, List.setIfInBounds_toArray, List.set_cons_zero, List.set_cons_succ])
              (refine wpAnyS_take0 25 ?_ rfl (by kernel_rfl) (by kernel_rfl) (by kernel_rfl) (by kernel_rfl) (fun _ _ _ h => h) (by rfl) ?_ (fun h => absurd h (by decide +kernel)) ?_; rotate_left; (· (intro w; go_simp; (try with_reducible rfl))); try simp only [Act.put, List.setIfInBounds_toArray, List.set_cons_zero, List.set_cons_succ])
              refine wpAnyS_one 26 rfl (by kernel_rfl) (by rfl) ?_
              intro K hK
              have cc := KS1.out.cell 6
              have ff := KS1.out.frozen 6
              simp at cc
              go_simp
              have KS2 := Lib.hid (KS1.out.set_ 6 (.slice y2 i d2))
              have OS2 := Lib.hid (OS1.out.setb (p := ⟨g, 6, none⟩) (by simp) (.slice y2 i d2))
              have FF9 := Lib.hid (FF9.out.trans (Frm.setg ws1 g 6 (.slice y2 i d2) _ _) (Nw.refl _ _) (Nw.refl _ _))
              have KN9 := Lib.hid (KN9.out.far (p := ⟨g, 6, none⟩) (by show N ≠ g; omega) (.slice y2 i d2))
              refine hK _ _ (fun h => absurd h (by decide +kernel)) ?_
              clear hK cc ff
              generalize World.setCell ws1 ⟨g, 6, none⟩ (.slice y2 i d2) = ws2' at KS2 OS2 FF9 KN9 ⊢
              (refine wpAnyS_take0 27 ?_ rfl (by kernel_rfl) (by kernel_rfl) (by kernel_rfl) (by kernel_rfl) (fun _ _ _ h => h) (by rfl) ?_ (fun h => absurd h (by decide +kernel)) ?_; rotate_left; (· (intro w; go_simp; (try with_reducible rfl))); try simp only [Act.put, List.setIfInBounds_toArray, List.set_cons_zero, List.set_cons_succ])
              (refine wpAnyS_take0 28 ?_ rfl (by kernel_rfl) (by kernel_rfl) (by kernel_rfl) (by kernel_rfl) (fun _ _ _ h => h) (by rfl) ?_ (fun h => absurd h (by decide +kernel)) ?_; rotate_left; (· (intro w; go_simp; (try with_reducible rfl))); try simp only [Act.put, List.setIfInBounds_toArray, List.set_cons_zero, List.set_cons_succ])
              refine wpAnyS_one 29 rfl (by kernel_rfl) (by rfl) ?_
              intro K hK
              have cc := KS2.out.cell 7
              have ff := KS2.out.frozen 7
              simp at cc
              go_simp
              have KS3 := Lib.hid (KS2.out.set_ 7 (.int .i64 sum))
              have OS3 := Lib.hid (OS2.out.setb (p := ⟨g, 7, none⟩) (by simp) (.int .i64 sum))
              have FF9 := Lib.hid (FF9.out.trans (Frm.setg ws2' g 7 (.int .i64 sum) _ _) (Nw.refl _ _) (Nw.refl _ _))
              have KN9 := Lib.hid (KN9.out.far (p := ⟨g, 7, none⟩) (by show N ≠ g; omega) (.int .i64 sum))
              refine hK _ _ (fun h => absurd h (by decide +kernel)) ?_
              clear hK cc ff
              generalize World.setCell ws2' ⟨g, 7, none⟩ (.int .i64 sum) = ws3 at KS3 OS3 FF9 KN9 ⊢
              refine wpAnyS_done (by kernel_rfl) ?_
              have SS : Hid (SetAt g (some ⟨bl, ol, none⟩) (some ⟨bg, og, none⟩) n lc gc most share ws3 given tens sum st' (.slice y1 i d1) (.slice y2 i d2) x3) := Lib.hid ⟨by have := KS3.out; simpa using this, OS3.out⟩
              clear KS3 OS3 KD OD
              have NI1 : Hid (Nw w (.slice A1 i c1) (.slice y1 i d1)) := Lib.hid (by have := NN1.out; unfold Nw at this ⊢; rw [ob_len y1 i m]; exact this)
              have NI2 : Hid (Nw w (.slice A2 i c2) (.slice y2 i d2)) := Lib.hid (by have := NN2.out; unfold Nw at this ⊢; rw [ob_len y2 i m]; exact this)
              have RK : Hid (R = r.bind (lpS (okG cs most share i sum) (fun z st => srch cs gs most share d (given ++ [z]) (tens ++ [tnAt cs i z]) (sum + tnAt cs i z) st) (gl.drop (k + 1)))) := Lib.hid (by
                have := HRk.out
                rw [HDR.out, lpS, if_pos HY.out, HTN.out, ← HTT.out, ← HRR.out] at this
                rw [← this]
                cases r <;> rfl)
              have CNT : Hid (∀ s2, r = some s2 → s2.count + s2.left ≤ 20000) := Lib.hid fun s2 e => by
                have := srch_cnt d _ _ _ _ _ (HRR.out.symm.trans e)
                simp only at this
                omega
              cases r with
              | none =>
                go_wp2
                go_ret
                exact ⟨st', .slice y1 i d1, .slice y2 i d2, x3, by (try rw [HE2.out]); rw [RK.out]; rfl, (by (try rw [HE2.out]); rw [RK.out]; intro s2 h; cases h), SS.out, FF9.out, NI1.out, NI2.out⟩
              | some s2 =>
                have e2 : st' = s2 := ST.out s2 rfl
                subst e2
                go_wp2
                go_roundw
                case rel => exact ⟨k + 1, st', .slice y1 i d1, .slice y2 i d2, x3, z, by omega, by go_num, Lib.hid (by rw [RK.out]; rfl), SS, KN9, FF9, NI1, NI2, Lib.hid (CNT.out st' rfl)⟩
                case measure => simp [intOf]; omega
          · have HN : Hid (okG cs most share i sum z = false) := Lib.hid (by rw [HOK.out, hho, ← HTT.out]; simpa using hs)
            have hd : decide (most < sum + t) = true := decide_eq_true (by omega)
            (refine wp_region_bel w5.heap.size w5 (Below.refl _ _) (by kernel_rfl) (by kernel_rfl) ?_; (repeat (go_big_quiet_step ((first | (go_at_call 52; exact bel_of (Nat.le_refl _) (holds_is hho _ COK.out s0 s1)))))); refine wpQuiet_nil ?_; rintro wx ⟨⟨_, hbx⟩, rfl⟩)
            have K6 := K5.out.below hbx K5.out.lt
            have KN6 := Lib.hid (KN5.out.below hbx KN5.out.lt)
            have O6 := O5.out.keep hbx
            have F6 := Lib.hid (F5.out.more (Frm.of_below hbx g _ _))
            have S6 : Hid (SetAt g (some ⟨bl, ol, none⟩) (some ⟨bg, og, none⟩) n lc gc most share wx given tens sum ⟨sl, sc, sbs, sle⟩ (.slice a1 i b1) (.slice a2 i b2) u3) := Lib.hid ⟨K6, O6⟩
            clear C0 C1 K5 KN5 O5 F5 hbx K6 O6 hho
            go_wp2
            go_roundw
            case rel => exact ⟨k + 1, ⟨sl, sc, sbs, sle⟩, .slice a1 i b1, .slice a2 i b2, u3, z, by omega, by go_num, Lib.hid (by have := HRk.out; rw [HDR.out, lpS, HN.out] at this; simpa using this), S6, KN6, F6, N1, N2, Lib.hid CLH⟩
            case measure => simp [intOf]; omega
      · obtain rfl : k = gl.length := by omega
        rw [List.drop_length, lpS] at HRk
        have HQ := HRk.out
        go_wp2
        go_ret
        exact ⟨stk, u1, u2, u3, by (try rw [HE2.out]); rw [← HQ]; rfl, (by (try rw [HE2.out]); rw [← HQ]; intro s2 h; injection h), SS.out, FF.out, N1.out, N2.out⟩
end
end Go.Proofs.Ytemkggecempmgaa
