/- Set-ups of strings: gauges that are drawn. -/
import Derived.Test.YtemkggecempmgaaSetDraw
import Derived.Test.YtemkggecempmgaaCopy
set_option linter.unusedVariables false
namespace Go.Proofs.Ytemkggecempmgaa
open Go.RowKit

def upB (r : List Int) (x : Int) : Prop := r.Pairwise (· < ·) ∧ ∀ z ∈ r, 200 ≤ z ∧ z < x
theorem upB_add {r : List Int} {x x' : Int} (h : upB r x) (h0 : 200 ≤ x) (hx : x < x') : upB (r ++ [x]) x' := by
  refine ⟨List.pairwise_append.2 ⟨h.1, by simp, fun a ha b hb => ?_⟩, fun z hz => ?_⟩
  · simp at hb; subst hb; exact (h.2 a ha).2
  · simp at hz
    rcases hz with hz | rfl
    · have := h.2 z hz; omega
    · omega
theorem upB_row {r : List Int} {x : Int} (h : upB r x) (hx : x ≤ 10000) (hl : r.length ≤ 6) : rowG r = true := by
  have key : ∀ k, k ≤ r.length → rzTo r k = true := by
    intro k
    induction k with
    | zero => intro _; rfl
    | succ k ih =>
      intro hk
      rw [rzTo, ih (by omega), Bool.true_and, rzAt]
      have hz := h.2 r[k] (List.getElem_mem _)
      have e : r.getD k 0 = r[k] := getD_ok (List.getElem?_eq_getElem (by omega))
      rw [e, inB_mk (by omega), Bool.true_and]
      by_cases h0 : k = 0
      · simp [h0]
      · have e2 : r.getD (k - 1) 0 = r[k - 1] := getD_ok (List.getElem?_eq_getElem (by omega))
        have := List.pairwise_iff_getElem.1 h.1 (k - 1) k (by omega) (by omega) (by omega)
        rw [e2]; simp [h0]; exact this
  rw [rowG, key _ (Nat.le_refl _)]; simpa using hl
/-- rows of gauges that are drawn -/
def GrS (rs : List (List Int)) : Prop := ∀ r ∈ rs, r.length ≤ 4 ∧ rowG r = true ∧ ∀ z ∈ r, 200 ≤ z ∧ z ≤ 9999
theorem GrS.add {rs : List (List Int)} {r : List Int} {x : Int} (h : GrS rs) (hl : r.length ≤ 4) (hu : upB r x) (hx : x ≤ 10000) : GrS (rs ++ [r]) := by
  intro y hy
  simp at hy
  rcases hy with hy | rfl
  · exact h y hy
  · exact ⟨hl, upB_row hu hx (by omega), fun z hz => by have := hu.2 z hz; omega⟩
theorem own_belowB {w w' : World} {L n k B : Nat} {t : TypeId} {v : Value} {xs : List Value} (h : w.ownsRow L t k v n xs) (hb : Below B w w') (hB : ∀ q, v.ownBlock = some q → q < B) : w'.ownsRow L t k v n xs := by
  refine ⟨h.1, ?_⟩
  rcases h.2 with hn | ⟨g, cap, cur, rfl, hl, hg, rest⟩
  · exact .inl hn
  · refine .inr ⟨g, cap, cur, rfl, hl, ?_, rest⟩
    rw [hb.block g (hB g rfl)]
    exact hg
theorem Own2.belowB {w w' : World} {L B B' n : Nat} {ts t : TypeId} {v : Value} {rs : List (List Int)} (h : Own2 w L B ts t v n rs) (hb : Below B' w w') (hB : B ≤ B') : Own2 w' L B ts t v n rs := by
  obtain ⟨hl, hB2, vs, h1, h2, h3⟩ := h
  refine ⟨hl, hB2, vs, own_belowB h1 hb (fun q hq => by have := hB2 q hq; omega), fun i r hr => ?_, h3⟩
  obtain ⟨u, e, ho, hk⟩ := h2 i r hr
  exact ⟨u, e, own_belowB ho hb (fun q hq => by have := hk q hq; omega), hk⟩
theorem own2_less {w : World} {L L' B n : Nat} {ts t : TypeId} {v : Value} {rs : List (List Int)} (h : Own2 w L B ts t v n rs) (hL : L' ≤ L) : Own2 w L' B ts t v n rs := by
  obtain ⟨hl, hB2, vs, h1, h2, h3⟩ := h
  refine ⟨hl, hB2, vs, own_less h1 hL, fun i r hr => ?_, h3⟩
  obtain ⟨u, e, ho, hk⟩ := h2 i r hr
  exact ⟨u, e, own_less ho hL, hk⟩
set_option maxRecDepth 100000 in
set_option maxHeartbeats 4000000 in
theorem R8Gauges_any (A : Option Addr) (c m n : Nat) (bs : List Int) (w : World) (h : Rd w w.heap.size 1 A m (bv bs)) (hb : ∀ b ∈ bs, byteR b) (hm : m ≤ 1048576) (n4 : n ≤ 4) :
    Calls Try.prog 10 #[.slice A m c, .int .i64 n] w fun e w' => ∃ (v : Value) (rs : List (List Int)), e = .returned v ∧ Own2 w' w.heap.size w'.heap.size 29 2 v rs.length rs ∧ GrS rs ∧ rs.length = n ∧ Below w.heap.size w w' := by
  have C1 := l00From_any A c m bs w h hb hm
  clear h hb
  go_enter Try.func10, Try.ntmps10
  go_wp2_with fail
  refine C1.mono ?_
  rintro r w1 ⟨rfl, hs1, hb1⟩
  have hsz1 := hb1.size
  have hg1 := hs1.lt
  obtain ⟨g, hg⟩ : ∃ g, g = w.heap.size := ⟨_, rfl⟩
  have B1 := Lib.hid hb1
  have S1 := hs1
  rw [← hg] at S1 hg1 hsz1 ⊢
  have HG := Lib.hid hg
  clear C1 hs1 hb1 hg
  have X2 := Lib.hid (own2_empty w1 29 2)
  have BA := (Below.refl w1.heap.size w1).alloc (Nat.le_refl _) (.cells #[] 29)
  have S2 := Lib.hid (S1.below BA hg1)
  have T2 := Lib.hid (Tch.of_below BA g (g + 1))
  clear S1 BA
  go_wp2_with fail
  generalize w1.alloc (.cells #[] 29) = w2 at X2 S2 T2 ⊢
  go_loopw [7, 6] (fun kv v wr => ∃ (j : Nat) (rs : List (List Int)), j ≤ n ∧ kv = .int .i64 j ∧ rs.length = j ∧ Hid (GrS rs) ∧ Hid (Own2 wr w1.heap.size wr.heap.size 29 2 v rs.length rs) ∧ Hid (SrcS wr g (12 * j)) ∧ Hid (Tch g (g + 1) w1 wr)) (fun kv _ _ => n - (intOf kv).toNat)
  case atStart => exact ⟨0, [], by omega, rfl, rfl, Lib.hid (by simp [GrS]), X2, Lib.hid (S2.out.mono (by omega)), T2⟩
  case round =>
    obtain ⟨j, rs, hj, rfl, hl, D, X, S, T⟩ := hrel
    by_cases hlt : j < n
    · have hsz := T.out.size
      generalize wr = w3 at *
      obtain ⟨B, hB⟩ : ∃ B, B = w3.heap.size := ⟨_, rfl⟩
      have BA := (Below.refl w3.heap.size w3).alloc (Nat.le_refl _) (.cells #[] 2)
      have O4 := own_empty w3 2
      have X4 := X.out.below BA
      rw [← hB] at O4 X4 hsz
      have O4 := Lib.hid O4
      have X4 := Lib.hid X4
      have S4 := Lib.hid (S.out.below BA (by omega))
      have T4 := Lib.hid (tch_below2 T.out BA)
      have gB : g + 1 ≤ w1.heap.size := by omega
      have hb4 : Hid (B ≤ (w3.alloc (.cells #[] 2)).heap.size) := Lib.hid (by rw [hB]; simp)
      clear BA X S T
      go_upto_region 7 with fail
      rw [← hB]
      clear hB
      generalize w3.alloc (.cells #[] 2) = w4 at O4 X4 S4 T4 hb4 ⊢
      have CP := pick_any g (12 * j) 150 w4 S4.out (by omega) (by omega) (by omega)
      clear S4
      go_wp2_with fail
      refine CP.mono ?_
      rintro e w5 ⟨⟨y, rfl, y0, y1⟩, hs5, ht5⟩
      have O5 := Lib.hid (own_tch O4.out ht5 (by omega))
      have X5 := Lib.hid (X4.out.tch ht5 (by omega))
      have T5 := Lib.hid (T4.out.trans ht5)
      have b5 : Hid (B ≤ w5.heap.size) := Lib.hid (Nat.le_trans hb4.out ht5.size)
      have CP2 := pick_any g (12 * j + 2) 5 w5 hs5 (by omega) (by omega) (by omega)
      clear CP hs5 ht5 O4 X4 T4 hb4
      go_wp2_with fail
      refine CP2.mono ?_
      rintro e w6 ⟨⟨p, rfl, p0, p1⟩, hs6, ht6⟩
      have O6 := Lib.hid (own_tch O5.out ht6 (by omega))
      have X6 := Lib.hid (X5.out.tch ht6 (by omega))
      have T6 := Lib.hid (T5.out.trans ht6)
      have b6 : Hid (B ≤ w6.heap.size) := Lib.hid (Nat.le_trans b5.out ht6.size)
      have S6 := Lib.hid hs6
      clear CP2 hs6 ht6 O5 X5 T5 b5
      obtain ⟨x, hx⟩ : ∃ x, x = 200 + 10 * y := ⟨_, rfl⟩
      have xb : 200 ≤ x ∧ x ≤ 1690 := by omega
      go_wp2_with fail
      rw [← hx]
      obtain ⟨P, hP⟩ : ∃ P : Nat, p = P := ⟨p.toNat, by omega⟩
      subst hP
      have P4 : P ≤ 4 := by omega
      clear hx
      go_loopw [10, 9, 8] (fun kv xv v wr => ∃ (q : Nat) (z : Int) (r : List Int), q ≤ 4 ∧ kv = .int .i64 q ∧ xv = .int .i64 z ∧ r.length + q ≤ 4 ∧ 200 ≤ z ∧ z ≤ 1690 + 600 * r.length ∧ Hid (upB r z) ∧ Hid (wr.ownsRow B 2 1 v r.length (iv r)) ∧ Hid (Own2 wr w1.heap.size B 29 2 u6 rs.length rs) ∧ Hid (SrcS wr g (12 * j + 4 + 2 * (4 - q))) ∧ Hid (Tch g (g + 1) w1 wr) ∧ Hid (B ≤ wr.heap.size)) (fun kv _ _ _ => (intOf kv).toNat)
      case atStart => exact ⟨P, x, [], P4, rfl, rfl, by simpa using P4, xb.1, by simp; omega, Lib.hid ⟨by simp, by simp⟩, O6, X6, Lib.hid (S6.out.mono (by omega)), T6, b6⟩
      case round =>
        obtain ⟨q, z, r, q4, rfl, rfl, rl, z0, z1, U, O, X, S, T, hb7⟩ := hrel
        have hb8 := hb7.out
        by_cases hq : 0 < q
        · have il : r.length ≤ 1099511627776 := by omega
          have zb : z ≤ 4090 := by omega
          go_upto_region 12 with (at_builtin; refine app1 rfl (.tmp 30) (.tmp 32) rfl B u8 r z rfl O.out rfl hb8 il ?_; intro v9 w9 o9 b9; have O9 := Lib.hid o9; have X9 := Lib.hid (X.out.belowB b9 (Nat.le_refl _)); have S9 := Lib.hid (S.out.below b9 (show g < B by omega)); have T9 := Lib.hid (tch_on T.out (b9.mono hsz)); have H9 := Lib.hid (Nat.le_trans hb8 b9.size); clear o9 b9)
          have CP := pick_any g (12 * j + 4 + 2 * (4 - q)) 60 w9 S9.out (by omega) (by omega) (by omega)
          clear S9
          go_wp2_with fail
          refine CP.mono ?_
          rintro e w10 ⟨⟨y9, rfl, y90, y91⟩, hs10, ht10⟩
          have O10 := Lib.hid (own_tch O9.out ht10 (by omega))
          have X10 := Lib.hid (X9.out.tch ht10 (by omega))
          have T10 := Lib.hid (T9.out.trans ht10)
          have b10 : Hid (B ≤ w10.heap.size) := Lib.hid (Nat.le_trans H9.out ht10.size)
          have S10 : Hid (SrcS w10 g (12 * j + 4 + 2 * (4 - (q - 1)))) := Lib.hid (hs10.mono (by omega))
          have U10 := Lib.hid (upB_add (x' := z + 10 * (1 + y9)) U.out z0 (by omega))
          clear CP hs10 ht10 O9 X9 T9 H9
          go_wp2
          go_roundw
          case rel => exact ⟨q - 1, z + 10 * (1 + y9), r ++ [z], by omega, by go_num, rfl, by simp; omega, by omega, by simp; omega, U10, O10, X10, S10, T10, b10⟩
          case measure => simp [intOf]; omega
        · obtain rfl : q = 0 := by omega
          have r4 : r.length ≤ 4 := by omega
          have DD := Lib.hid (D.out.add r4 U.out (by omega))
          obtain ⟨Ar, cr, rfl⟩ := own_val O.out
          go_wp2_with (at_builtin; refine app2u rfl (.tmp 40) (.tmp 42) rfl w1.heap.size B u6 (.slice Ar r.length cr) rs r rfl X.out (own_less O.out hsz) (fun k hk => (O.out.lt k hk).1) hb8 rfl (by omega) (by omega) ?_; intro v9 w9 o9 b9; have O9 := Lib.hid o9; have S9 := Lib.hid (S.out.below b9 (by omega)); have T9 := Lib.hid (tch_on T.out b9); clear o9 b9)
          go_roundw
          case rel => exact ⟨j + 1, rs ++ [r], by omega, by go_num, by simp; omega, DD, O9, Lib.hid (S9.out.mono (by omega)), T9⟩
          case measure => simp [intOf]; omega
    · obtain rfl : j = n := by omega
      have hs1 : w.heap.size ≤ w1.heap.size := by have := B1.out.size; omega
      have XX : Hid (Own2 wr w.heap.size wr.heap.size 29 2 u6 rs.length rs) := Lib.hid (own2_less X.out hs1)
      have BB : Hid (Below w.heap.size w wr) := Lib.hid (T.out.below B1.out (by rw [HG.out]; exact Nat.le_refl _) (by omega))
      go_wp2
      go_ret
      exact ⟨_, rs, rfl, XX.out, D.out, hl, BB.out⟩
end Go.Proofs.Ytemkggecempmgaa
