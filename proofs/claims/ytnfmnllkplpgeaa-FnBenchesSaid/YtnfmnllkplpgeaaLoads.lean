/- LoadOf, FreeDays. -/
import Derived.Test.YtnfmnllkplpgeaaPlan
import Derived.Test.YtnfmnllkplpgeaaApp
set_option linter.unusedVariables false
namespace Go.Proofs.Ytnfmnllkplpgeaa
open Go.RowKit

def loadTo (r : List Int) : Nat → Int
  | 0 => 0
  | j + 1 => loadTo r j + (if r.getD j 0 = 0 then 0 else 1)
theorem loadTo_bd (r : List Int) (j : Nat) : 0 ≤ loadTo r j ∧ loadTo r j ≤ j := by
  induction j with
  | zero => simp [loadTo]
  | succ j ih => rw [loadTo]; split <;> push_cast <;> omega
theorem loadTo_z {r : List Int} {j : Nat} {z : Int} (hz : r[j]? = some z) (h : z = 0) : loadTo r (j + 1) = loadTo r j := by rw [loadTo, getD_is hz, if_pos h]; omega
theorem loadTo_n {r : List Int} {j : Nat} {z : Int} (hz : r[j]? = some z) (h : z ≠ 0) : loadTo r (j + 1) = loadTo r j + 1 := by rw [loadTo, getD_is hz, if_neg h]
def loads (rs : List (List Int)) (k : Nat) : List Int := (rs.take k).map fun r => loadTo r 40
theorem loads_next {rs : List (List Int)} {k : Nat} {r : List Int} (h : rs[k]? = some r) : loads rs (k + 1) = loads rs k ++ [loadTo r 40] := by
  obtain ⟨hk, rfl⟩ := List.getElem?_eq_some_iff.1 h
  simp only [loads]; rw [List.take_succ_eq_append_getElem hk, List.map_append]; rfl
theorem loads_len {rs : List (List Int)} {k : Nat} (h : k ≤ rs.length) : (loads rs k).length = k := by simp [loads]; omega
def LoadOf_L (rs : List (List Int)) : List Int × Int := if planB rs = true then (loads rs rs.length, 0) else ([], 1)
theorem LoadOf_bd (rs : List (List Int)) : (LoadOf_L rs).1.length ≤ 1000000 := by
  unfold LoadOf_L
  split
  · rename_i h
    have := planB_t h
    simp [loads]; omega
  · simp
theorem ret_S {t : TypeId} {w w' : World} {v : Value} {zs zs' : List Int} {code code' : Int} (hz : zs' = zs) (hc : code' = code) (ho : w'.ownsRow w.heap.size t 1 v zs.length (iv zs)) (hb : Below w.heap.size w w') : RetS t w zs' code' (.returned (.tuple #[v, .int .i64 code])) w' := by
  subst hz hc; exact ⟨v, rfl, ho, hb⟩
theorem own_nil (w : World) (L : Nat) (t : TypeId) : w.ownsRow L t 1 (.slice none 0 0) ([] : List Int).length (iv []) := World.ownsRow_nil w L t 1
set_option maxHeartbeats 2000000 in
theorem LoadOf_i (A : Option Addr) (c n : Nat) (rs : List (List Int)) (w : World) (h : Rd2 w 0 w.heap.size A n rs) (hm : n ≤ maxLen) (hr : ∀ r ∈ rs, r.length ≤ maxLen) :
    Calls Try.prog 7 #[.slice A n c] w (RetS 2 w (LoadOf_L rs).1 (LoadOf_L rs).2) := by
  have HV := Lib.hid (ValidPlan_i A c n _ _ rs w h hm hr)
  have HN := Lib.hid h.1
  have H := Lib.hid h
  cases hp : planB rs
  · rw [show LoadOf_L rs = ([], 1) by simp [LoadOf_L, hp]]
    go_enter Try.func7, Try.ntmps7
    go_wp2_with fail
    refine HV.out.mono ?_
    rw [hp]
    rintro r w' ⟨rfl, rfl⟩
    go_wp2
    go_ret2
    exact ret_S rfl rfl (own_nil _ _ _) (Below.refl _ _)
  · have P := planB_t hp
    have HP := Lib.hid P.2.2
    have n6 : n ≤ 6 := by have := P.2.1; rw [HN.out] at this; exact this
    rw [show LoadOf_L rs = (loads rs n, 0) by simp [LoadOf_L, hp, HN.out]]
    have HPB := Lib.hid hp
    clear P h hm hr hp
    have O0 := Lib.hid (own_empty w 2)
    have b0 := Lib.hid ((Below.refl w.heap.size w).alloc (Nat.le_refl _) (.cells #[] 2))
    go_enter Try.func7, Try.ntmps7
    go_wp2_with fail
    refine HV.out.mono ?_
    rw [HPB.out]
    rintro r w' ⟨rfl, rfl⟩
    clear HV HPB
    go_wp2
    generalize w.alloc (.cells #[] 2) = w0 at O0 b0 ⊢
    go_loopw [16, 4] (fun i v wr => ∃ k : Nat, k ≤ n ∧ i = .int .i64 k ∧ Hid (wr.ownsRow w.heap.size 2 1 v (loads rs k).length (iv (loads rs k))) ∧ Hid (Below w.heap.size w wr)) (fun i _ _ => n - (intOf i).toNat)
    case atStart => exact ⟨0, Nat.zero_le _, rfl, O0, b0⟩
    case round =>
      obtain ⟨k, hk, rfl, hv, hb⟩ := hrel
      by_cases hlt : k < n
      · obtain ⟨r, hx, hxm⟩ := getD_of (l := rs) (i := k) (by rw [HN.out]; exact hlt)
        have H40 := Lib.hid (HP.out r hxm).1
        have HX := Lib.hid hx
        obtain ⟨b, o, rfl, hbB, hc⟩ := (H.out.below hb.out (Nat.le_refl _)).at_ (by omega)
        obtain ⟨Ai, ci, c0, hR, hcap⟩ := hc k r hx
        have HR := Lib.hid hR
        rw [H40.out] at c0
        have hsz := hb.out.size
        clear hc hx hxm hR
        obtain ⟨wo, rfl⟩ : ∃ wo : World, wo = wr := ⟨_, rfl⟩
        go_wp2
        go_loop [22, 7] (fun i l => ∃ j : Nat, j ≤ 40 ∧ i = .int .i64 j ∧ l = .int .i64 (loadTo r j)) (fun i _ => 40 - (intOf i).toNat)
        case atStart => exact ⟨0, Nat.zero_le _, rfl, rfl⟩
        case round =>
          obtain ⟨j, hj, rfl, rfl⟩ := hrel
          have lb := loadTo_bd r j
          by_cases hjt : j < 40
          · obtain ⟨z, hz, _⟩ := getD_of (l := r) (i := j) (by rw [H40.out]; exact hjt)
            obtain ⟨b', o', rfl, hbB', hc'⟩ := HR.out.1.ints (by rw [H40.out]; omega)
            have d0 : wo.cell? ⟨b', o' + j, none⟩ = some (.int .i64 z) := hc' j z hz
            have HZ := Lib.hid hz
            clear hc' hz
            by_cases hv0 : z = 0
            · have HG := Lib.hid (loadTo_z HZ.out hv0)
              subst hv0
              go_wp2
              go_round
              case rel => exact ⟨j + 1, by omega, by go_num, by rw [HG.out]⟩
              case measure => simp [intOf]; omega
            · have HG := Lib.hid (loadTo_n HZ.out hv0)
              have q : (z != 0) = true := by simpa using hv0
              have q' : (z == 0) = false := by simpa using hv0
              clear hv0
              go_wp2
              go_round
              case rel => exact ⟨j + 1, by omega, by go_num, by rw [HG.out]⟩
              case measure => simp [intOf]; omega
          · obtain rfl : j = 40 := by omega
            have HL := Lib.hid (loads_next HX.out)
            have ll : (loads rs k).length ≤ 1099511627776 := by rw [loads_len (by rw [HN.out]; omega)]; omega
            clear lb
            go_wp2_with (at_builtin; refine app1 rfl (.tmp 31) (.tmp 33) rfl w.heap.size u4 (loads rs k) (loadTo r 40) rfl hv.out rfl hsz ll ?_; intro v1 w1 ho1 hb1)
            have V1 : Hid (w1.ownsRow w.heap.size 2 1 v1 (loads rs (k + 1)).length (iv (loads rs (k + 1)))) := Lib.hid (by rw [HL.out]; exact ho1)
            have b1 := Lib.hid (hb.out.trans hb1)
            clear ho1 hb1
            go_roundw
            case rel => exact ⟨k + 1, by omega, by go_num, V1, b1⟩
            case measure => simp [intOf]; omega
      · obtain rfl : k = n := by omega
        go_wp2
        go_ret2
        exact ret_S rfl rfl hv.out hb.out
def freeTo (r : List Int) : Nat → List Int
  | 0 => []
  | j + 1 => if r.getD j 0 = 0 then freeTo r j ++ [(j : Int)] else freeTo r j
theorem freeTo_len (r : List Int) (j : Nat) : (freeTo r j).length ≤ j := by
  induction j with
  | zero => simp [freeTo]
  | succ j ih =>
    rw [freeTo]
    split
    · rw [List.length_append]; simp; omega
    · omega
theorem freeTo_z {r : List Int} {j : Nat} {z : Int} (hz : r[j]? = some z) (h : z = 0) : freeTo r (j + 1) = freeTo r j ++ [(j : Int)] := by rw [freeTo, getD_is hz, if_pos h]
theorem freeTo_n {r : List Int} {j : Nat} {z : Int} (hz : r[j]? = some z) (h : z ≠ 0) : freeTo r (j + 1) = freeTo r j := by rw [freeTo, getD_is hz, if_neg h]
def FreeDays_L (rs : List (List Int)) (b : Int) : List Int × Int := if planB rs = true then (if atB b rs.length = true then (freeTo (rs.getD b.toNat []) 40, 0) else ([], 2)) else ([], 1)
theorem FreeDays_bd (rs : List (List Int)) (b : Int) : (FreeDays_L rs b).1.length ≤ 1000000 := by
  unfold FreeDays_L
  split
  · split
    · have := freeTo_len (rs.getD b.toNat []) 40; show (freeTo (rs.getD b.toNat []) 40).length ≤ 1000000; omega
    · simp
  · simp
set_option maxHeartbeats 2000000 in
theorem FreeDays_i (A : Option Addr) (c n : Nat) (rs : List (List Int)) (bn : Int) (w : World) (h : Rd2 w 0 w.heap.size A n rs) (hm : n ≤ maxLen) (hr : ∀ r ∈ rs, r.length ≤ maxLen) :
    Calls Try.prog 9 #[.slice A n c, .int .i64 bn] w (RetS 2 w (FreeDays_L rs bn).1 (FreeDays_L rs bn).2) := by
  have HV := Lib.hid (ValidPlan_i A c n _ _ rs w h hm hr)
  have HN := Lib.hid h.1
  have H := Lib.hid h
  have m2 := hm
  unfold maxLen at m2
  cases hp : planB rs
  · rw [show FreeDays_L rs bn = ([], 1) by simp [FreeDays_L, hp]]
    go_enter Try.func9, Try.ntmps9
    go_wp2_with fail
    refine HV.out.mono ?_
    rw [hp]
    rintro r w' ⟨rfl, rfl⟩
    go_wp2
    go_ret2
    exact ret_S rfl rfl (own_nil _ _ _) (Below.refl _ _)
  cases hq : atB bn n
  · rw [show FreeDays_L rs bn = ([], 2) by simp [FreeDays_L, hp, HN.out, hq]]
    go_enter Try.func9, Try.ntmps9
    go_wp2_with fail
    refine HV.out.mono ?_
    rw [hp]
    rintro r w' ⟨rfl, rfl⟩
    go_wp2_with ((go_at_call 23; refine (at_any _ _ _ (by omega)).mono ?_; rintro e w' ⟨rfl, rfl⟩))
    go_ret2
    exact ret_S rfl rfl (own_nil _ _ _) (Below.refl _ _)
  · have P := planB_t hp
    have qb := atB_t hq
    obtain ⟨r, hx, hxm⟩ := getD_of (l := rs) (i := bn.toNat) (by rw [HN.out]; omega)
    have H40 := Lib.hid (P.2.2 r hxm).1
    rw [show FreeDays_L rs bn = (freeTo r 40, 0) by simp [FreeDays_L, hp, HN.out, hq, hx]]
    have HPB := Lib.hid hp
    have HX := Lib.hid hx
    obtain ⟨bb, hbb⟩ : ∃ k : Nat, bn = k := ⟨bn.toNat, by omega⟩
    subst hbb
    rw [Int.toNat_natCast] at HX
    obtain ⟨b, o, rfl, hbB, hc⟩ := H.out.at_ (by omega)
    obtain ⟨Ai, ci, c0, hR, hcap⟩ := hc bb r HX.out
    have HR := Lib.hid hR
    rw [H40.out] at c0
    have HC0 := Lib.hid c0
    clear P h hr hp hx hxm hc hR
    have O0 := Lib.hid (own_empty w 2)
    have b0 := Lib.hid ((Below.refl w.heap.size w).alloc (Nat.le_refl _) (.cells #[] 2))
    go_enter Try.func9, Try.ntmps9
    go_wp2_with fail
    refine HV.out.mono ?_
    rw [HPB.out]
    rintro r w' ⟨rfl, rfl⟩
    clear HV HPB
    go_wp2_with ((go_at_call 23; refine (at_any _ _ _ (by omega)).mono ?_; rintro e w' ⟨rfl, rfl⟩))
    generalize w.alloc (.cells #[] 2) = w0 at O0 b0 ⊢
    clear hq
    go_loopw [23, 6] (fun i v wr => ∃ j : Nat, j ≤ 40 ∧ i = .int .i64 j ∧ Hid (wr.ownsRow w.heap.size 2 1 v (freeTo r j).length (iv (freeTo r j))) ∧ Hid (Below w.heap.size w wr)) (fun i _ _ => 40 - (intOf i).toNat)
    case atStart => exact ⟨0, Nat.zero_le _, rfl, O0, b0⟩
    case round =>
      obtain ⟨j, hj, rfl, hv, hb⟩ := hrel
      have hsz := hb.out.size
      by_cases hjt : j < 40
      · obtain ⟨z, hz, _⟩ := getD_of (l := r) (i := j) (by rw [H40.out]; exact hjt)
        have d1 : wr.cell? ⟨b, o + bb, none⟩ = some (.slice Ai 40 ci) := (hb.out.cell (p := ⟨b, o + bb, none⟩) hbB).trans HC0.out
        obtain ⟨b', o', rfl, hbB', hc'⟩ := HR.out.1.ints (by rw [H40.out]; omega)
        have d0 : wr.cell? ⟨b', o' + j, none⟩ = some (.int .i64 z) := (hb.out.cell (p := ⟨b', o' + j, none⟩) hbB').trans (hc' j z hz)
        have HZ := Lib.hid hz
        have ll : (freeTo r j).length ≤ 1099511627776 := by have := freeTo_len r j; omega
        clear hc' hz
        by_cases hv0 : z = 0
        · have HG := Lib.hid (freeTo_z HZ.out hv0)
          subst hv0
          go_wp2_with (at_builtin; refine app1 rfl (.tmp 30) (.tmp 32) rfl w.heap.size u6 (freeTo r j) (j : Int) rfl hv.out rfl hsz ll ?_; intro v1 w1 ho1 hb1)
          have V1 : Hid (w1.ownsRow w.heap.size 2 1 v1 (freeTo r (j + 1)).length (iv (freeTo r (j + 1)))) := Lib.hid (by rw [HG.out]; exact ho1)
          have b1 := Lib.hid (hb.out.trans hb1)
          clear ho1 hb1
          go_roundw
          case rel => exact ⟨j + 1, by omega, by go_num, V1, b1⟩
          case measure => simp [intOf]; omega
        · have HG := Lib.hid (freeTo_n HZ.out hv0)
          have q : (z != 0) = true := by simpa using hv0
          have q' : (z == 0) = false := by simpa using hv0
          have V1 : Hid (wr.ownsRow w.heap.size 2 1 u6 (freeTo r (j + 1)).length (iv (freeTo r (j + 1)))) := Lib.hid (by rw [HG.out]; exact hv.out)
          clear hv0
          go_wp2
          go_roundw
          case rel => exact ⟨j + 1, by omega, by go_num, V1, hb⟩
          case measure => simp [intOf]; omega
      · obtain rfl : j = 40 := by omega
        go_wp2
        go_ret2
        exact ret_S rfl rfl hv.out hb.out
end Go.Proofs.Ytnfmnllkplpgeaa
