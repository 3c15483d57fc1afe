/- DropWork. -/
import Derived.Test.YtnfmnllkplpgeaaPartFns
import Derived.Test.YtnfmnllkplpgeaaBook
import Derived.StillTailTactics
set_option linter.unusedVariables false
namespace Go.Proofs.Ytnfmnllkplpgeaa
open Go.RowKit

theorem Own2.less {w : World} {L L' B n : Nat} {ts t : TypeId} {v : Value} {rs : List (List Int)} (h : Own2 w L B ts t v n rs) (hL : L' ≤ L) : Own2 w L' B ts t v n rs := by
  obtain ⟨hl, hb, vs, h1, h2, h3⟩ := h
  refine ⟨hl, hb, vs, own_less h1 hL, fun i r hr => ?_, h3⟩
  obtain ⟨u, e, ho, hk⟩ := h2 i r hr
  exact ⟨u, e, own_less ho hL, hk⟩
def dropOne (rs : List (List Int)) (p : List Int) : List (List Int) := rs.set (p.getD 0 0).toNat (fillTo (rs.getD (p.getD 0 0).toNat []) (p.getD 1 0).toNat 0 (p.getD 2 0).toNat)
def dropTo (rs ps : List (List Int)) : Nat → List (List Int)
  | 0 => rs
  | i + 1 => dropOne (dropTo rs ps i) (ps.getD i [])
theorem dropTo_len (rs ps : List (List Int)) (i : Nat) : (dropTo rs ps i).length = rs.length := by
  induction i with
  | zero => rfl
  | succ i ih => rw [dropTo, dropOne, List.length_set, ih]
theorem dropTo_40 {rs ps : List (List Int)} {n : Nat} (hn : rs.length = n) (h : ∀ r ∈ rs, r.length = 40) (hp : ∀ p ∈ ps, PartOk n p) : ∀ i, i ≤ ps.length → ∀ r ∈ dropTo rs ps i, r.length = 40
  | 0, _ => h
  | i + 1, hi => by
    have ih := dropTo_40 hn h hp i (by omega)
    obtain ⟨p, hx, hxm⟩ := getD_of (l := ps) (i := i) (by omega)
    obtain ⟨x, y, z, rfl, hxn, hz, hyz⟩ := hp p hxm
    obtain ⟨r, hr, hrm⟩ := getD_of (l := dropTo rs ps i) (i := x) (by rw [dropTo_len, hn]; exact hxn)
    rw [dropTo, getD_is hx, dropOne]
    refine set_rows ih ?_
    rw [fillTo_len]
    simp only [List.getD_cons_zero, Int.toNat_natCast]
    rw [getD_is hr]; exact ih r hrm
theorem dropTo_next {rs ps : List (List Int)} {i x y z : Nat} {r : List Int} (hx : ps[i]? = some [(x : Int), (y : Int), (z : Int)]) (hr : (dropTo rs ps i)[x]? = some r) : dropTo rs ps (i + 1) = (dropTo rs ps i).set x (fillTo r y 0 z) := by
  rw [dropTo, getD_is hx, dropOne]
  simp only [List.getD_cons_zero, List.getD_cons_succ, Int.toNat_natCast]
  rw [getD_is hr]
def DropWork_L (rs : List (List Int)) (wk : Int) : List (List Int) × Int := if (PartsOf_L rs wk).2 = 0 then (dropTo rs (PartsOf_L rs wk).1 (PartsOf_L rs wk).1.length, 0) else ([], (PartsOf_L rs wk).2)
theorem PartsOf_ok {rs : List (List Int)} {wk : Int} (h : (PartsOf_L rs wk).2 = 0) : planB rs = true ∧ inB wk 1 8 = true ∧ (pAll wk rs rs.length).length ≠ 0 ∧ (PartsOf_L rs wk).1 = pAll wk rs rs.length := by
  unfold PartsOf_L at h ⊢
  split at h
  · rename_i h1
    split at h
    · rename_i h2
      split at h
      · simp at h
      · rename_i h3
        refine ⟨h1, h2, h3, ?_⟩
        rw [if_pos h1, if_pos h2, if_neg h3]
    · simp at h
  · simp at h
theorem DropWork_bd (rs : List (List Int)) (wk : Int) : (DropWork_L rs wk).1.length ≤ maxLen ∧ (∀ r ∈ (DropWork_L rs wk).1, r.length ≤ maxLen) ∧ tot (DropWork_L rs wk).1 ≤ 1000000 := by
  unfold DropWork_L
  split
  · rename_i h
    obtain ⟨hp, _, _, e⟩ := PartsOf_ok h
    have P := planB_t hp
    rw [e]
    refine rows_bd (fun r hr => Nat.le_of_eq (dropTo_40 rfl (fun q hq => (P.2.2 q hq).1) (pAll_ok wk rs rs.length) _ (Nat.le_refl _) r hr)) ?_
    show (dropTo rs (pAll wk rs rs.length) (pAll wk rs rs.length).length).length ≤ 6
    rw [dropTo_len]; exact P.2.1
  · exact rows_bd (by simp) (by simp)
set_option maxHeartbeats 4000000 in
theorem DropWork_i (A : Option Addr) (c n : Nat) (rs : List (List Int)) (wk : Int) (w : World) (h : Rd2 w 0 w.heap.size A n rs) (hm : n ≤ maxLen) (hr : ∀ r ∈ rs, r.length ≤ maxLen) :
    Calls Try.prog 13 #[.slice A n c, .int .i64 wk] w (RetSS 29 2 w (DropWork_L rs wk).1 (DropWork_L rs wk).2) := by
  have HV := Lib.hid (PartsOf_i A c n rs wk w h hm hr)
  have HN := Lib.hid h.1
  have H := Lib.hid h
  by_cases hc0 : (PartsOf_L rs wk).2 = 0
  · obtain ⟨hp, _, hne, e⟩ := PartsOf_ok hc0
    have P := planB_t hp
    have n6 : n ≤ 6 := by have := P.2.1; rw [HN.out] at this; exact this
    rw [HN.out] at hne e
    rw [show DropWork_L rs wk = (dropTo rs (pAll wk rs n) (pAll wk rs n).length, 0) by rw [DropWork_L, if_pos hc0, e]]
    have HP : Hid (∀ r ∈ rs, r.length ≤ 1048576 ∧ 0 < r.length) := Lib.hid fun q hq => by have := (P.2.2 q hq).1; omega
    have H40 : Hid (∀ r ∈ rs, r.length = 40) := Lib.hid fun q hq => (P.2.2 q hq).1
    have HPK := Lib.hid (pAll_ok wk rs n)
    have pl := pAll_len wk rs n
    have HE := Lib.hid e
    have HC0 := Lib.hid hc0
    obtain ⟨ps, hps⟩ : ∃ ps, ps = pAll wk rs n := ⟨_, rfl⟩
    rw [← hps] at HE HPK pl ⊢
    obtain ⟨m, hpm⟩ : ∃ m, ps.length = m := ⟨_, rfl⟩
    have HPM := Lib.hid hpm
    rw [hpm] at pl ⊢
    clear P h hr hp hne e hc0 hps hpm hm
    go_enter Try.func13, Try.ntmps13
    go_wp2_with fail
    refine HV.out.mono ?_
    rintro r w1 ⟨v1, rfl, ho1, hb1⟩
    rw [HE.out, HPM.out] at ho1
    rw [HC0.out]
    obtain ⟨A6, c6, rfl⟩ := own2_val ho1
    have R1 := Lib.hid ho1.reads
    have b1 := Lib.hid hb1
    have s1 := hb1.size
    clear ho1 hb1 HV HE HC0
    go_wp2_with fail
    refine (copyPlan_i _ _ n rs _ (H.out.next b1.out) HP.out (by omega)).mono ?_
    rintro e w2 ⟨v2, rfl, ho2, hb2⟩
    rw [HN.out] at ho2
    obtain ⟨A8, c8, rfl⟩ := own2_val ho2
    have M2 := Lib.hid ho2
    have b2 := Lib.hid (below_more b1.out hb2 (Nat.le_refl _))
    have t2 := Lib.hid hb2
    clear ho2 hb2
    go_wp2
    go_loopw [24] (fun i wr => ∃ j : Nat, j ≤ m ∧ i = .int .i64 j ∧ Hid (Own2 wr w1.heap.size wr.heap.size 29 2 (.slice A8 n c8) n (dropTo rs ps j)) ∧ Hid (Below w1.heap.size w1 wr)) (fun i _ => m - (intOf i).toNat)
    case atStart => exact ⟨0, Nat.zero_le _, rfl, M2, t2⟩
    case round =>
      obtain ⟨j, hj, rfl, M, t⟩ := hrel
      by_cases hlt : j < m
      · obtain ⟨p, hx, hxm⟩ := getD_of (l := ps) (i := j) (by rw [HPM.out]; exact hlt)
        obtain ⟨x, y, z, rfl, hxn, hz1, hyz⟩ := HPK.out p hxm
        obtain ⟨r, hr, hrm⟩ := getD_of (l := dropTo rs ps j) (i := x) (by rw [dropTo_len, HN.out]; exact hxn)
        have hr40 := dropTo_40 HN.out H40.out HPK.out j (by rw [HPM.out]; omega) r hrm
        have HNX := Lib.hid (dropTo_next hx hr)
        obtain ⟨b6, o6, rfl, hb6, hc6⟩ := (R1.out.below t.out (Nat.le_refl _)).at_ (by omega)
        obtain ⟨Ap, cp, k0, hRp, _⟩ := hc6 j _ hx
        obtain ⟨bp, op, rfl, hbp, hcp⟩ := hRp.1.ints (by simp)
        have e0 : wr.cell? ⟨bp, op, none⟩ = some (.int .i64 x) := hcp 0 _ rfl
        have e1 : wr.cell? ⟨bp, op + 1, none⟩ = some (.int .i64 y) := hcp 1 _ rfl
        have e2 : wr.cell? ⟨bp, op + 2, none⟩ = some (.int .i64 z) := hcp 2 _ rfl
        have k0' : wr.cell? ⟨b6, o6 + j, none⟩ = some (.slice (some ⟨bp, op, none⟩) 3 cp) := k0
        obtain ⟨g, Aj, cj, rfl, k1, hoj, hkj, hput⟩ := M.out.where_ (by decide) hr
        rw [hr40] at k1 hoj hput hkj
        have HOJ := Lib.hid hoj
        have HPUT := Lib.hid hput
        have HKJ := Lib.hid hkj
        have HR40 := Lib.hid hr40
        clear k0 hc6 hRp hcp hoj hput hkj hx hxm hr hrm hr40
        go_wp2_with fail
        go_still_tail 12, (by kernel_rfl)
        change wpList _ _ _ _ _ wr.drew
        have HO3 : Hid (wr.drew.ownsRow w1.heap.size 2 1 (.slice Aj 40 cj) 40 (iv r)) := Lib.hid HOJ.out
        have HP3 : Hid (∀ (w5 : World), wr.drew.grownBy w5 (Value.ownBlock (.slice Aj 40 cj)) → w5.ownsRow w1.heap.size 2 1 (.slice Aj 40 cj) 40 (iv (fillTo r y 0 z)) → Own2 w5 w1.heap.size wr.heap.size 29 2 (.slice (some ⟨g, 0, none⟩) n c8) n (dropTo rs ps (j + 1))) := Lib.hid fun w5 a b => by
          rw [HNX.out]
          exact HPUT.out w5 _ (by rw [fillTo_len]; exact HR40.out) ⟨a.os, a.tape, a.output, a.size, a.block⟩ b
        have t3 : Hid (Below w1.heap.size w1 wr.drew) := Lib.hid (below_drew t.out)
        have hs3 : wr.heap.size ≤ wr.drew.heap.size := Nat.le_refl _
        have hs4 : w1.heap.size ≤ wr.drew.heap.size := t.out.size
        clear M t HOJ HPUT
        generalize wr.drew = w3 at HO3 HP3 t3 hs3 hs4 ⊢
        go_wp2_with fail
        refine (fill_i _ _ 40 y z _ 0 r _ HO3.out (by omega) (by omega)).mono ?_
        rintro e w4 ⟨rfl, ho4, hg4⟩
        have M4 := Lib.hid ((HP3.out w4 hg4 ho4).more (Nat.le_trans hs3 hg4.size))
        have t4 := Lib.hid (t3.out.grown hg4 hs4 fun k hk => (HKJ.out k hk).1)
        clear ho4 hg4 HO3 HP3 t3
        go_wp2
        go_roundw
        case rel => exact ⟨j + 1, by omega, by go_num, M4, t4⟩
        case measure => simp [intOf]; omega
      · obtain rfl : j = m := by omega
        go_wp2
        go_ret2
        exact ret_SS rfl rfl (by rw [dropTo_len, HN.out]; exact M.out.less s1) (t.out.mono s1 |> b1.out.trans)
  · rw [show DropWork_L rs wk = ([], (PartsOf_L rs wk).2) by rw [DropWork_L, if_neg hc0]]
    have q : ((PartsOf_L rs wk).2 != 0) = true := by simpa using hc0
    have q' : ((PartsOf_L rs wk).2 == 0) = false := by simpa using hc0
    clear hc0
    go_enter Try.func13, Try.ntmps13
    go_wp2_with fail
    refine HV.out.mono ?_
    rintro r w1 ⟨v1, rfl, ho1, hb1⟩
    clear ho1 HV
    go_wp2
    go_ret2
    exact ret_SS rfl rfl (own2_nil _ _ _ _ _) hb1
end Go.Proofs.Ytnfmnllkplpgeaa
