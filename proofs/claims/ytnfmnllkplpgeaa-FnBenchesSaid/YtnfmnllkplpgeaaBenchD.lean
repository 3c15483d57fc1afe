/- Plans that are drawn. -/
import Derived.Test.YtnfmnllkplpgeaaCopy
import Derived.Test.YtnfmnllkplpgeaaSrc
import Derived.Test.YtnfmnllkplpgeaaAnyS
import Derived.Deep.DeepCutAuto
import Derived.StillTailTactics
set_option linter.unusedVariables false
set_option linter.unusedSimpArgs false
namespace Go.Proofs.Ytnfmnllkplpgeaa
open Go.RowKit

theorem tchD_below2 {lo hi : Nat} {a b c : World} (h : Tch lo hi a b) (k : Below b.heap.size b c) : Tch lo hi a c := h.trans (Tch.of_below k lo hi)
theorem tchD_on {lo hi : Nat} {a b c : World} (h : Tch lo hi a b) (k : Below a.heap.size b c) : Tch lo hi a c :=
  ⟨k.os.trans h.os, k.tape.trans h.tape, k.output.trans h.output, Nat.le_trans h.size k.size, fun i h1 h2 => (k.block i h1).trans (h.block i h1 h2)⟩
theorem ownD_belowB {w w' : World} {L n k B : Nat} {t : TypeId} {v : Value} {xs : List Value} (h : w.ownsRow L t k v n xs) (hb : Below B w w') (hB : ∀ q, v.ownBlock = some q → q < B) : w'.ownsRow L t k v n xs := by
  refine ⟨h.1, ?_⟩
  rcases h.2 with hn | ⟨g, cap, cur, rfl, hl, hg, rest⟩
  · exact .inl hn
  · refine .inr ⟨g, cap, cur, rfl, hl, ?_, rest⟩
    rw [hb.block g (hB g rfl)]
    exact hg
theorem Own2.belowD {w w' : World} {L B B' n : Nat} {ts t : TypeId} {v : Value} {rs : List (List Int)} (h : Own2 w L B ts t v n rs) (hb : Below B' w w') (hB : B ≤ B') : Own2 w' L B ts t v n rs := by
  obtain ⟨hl, hB2, vs, h1, h2, h3⟩ := h
  refine ⟨hl, hB2, vs, ownD_belowB h1 hb (fun q hq => by have := hB2 q hq; omega), fun i r hr => ?_, h3⟩
  obtain ⟨u, e, ho, hk⟩ := h2 i r hr
  exact ⟨u, e, ownD_belowB ho hb (fun q hq => by have := hk q hq; omega), hk⟩
theorem own2_lessD {w : World} {L L' B n : Nat} {ts t : TypeId} {v : Value} {rs : List (List Int)} (h : Own2 w L B ts t v n rs) (hL : L' ≤ L) : Own2 w L' B ts t v n rs := by
  obtain ⟨hl, hB2, vs, h1, h2, h3⟩ := h
  refine ⟨hl, hB2, vs, own_less h1 hL, fun i r hr => ?_, h3⟩
  obtain ⟨u, e, ho, hk⟩ := h2 i r hr
  exact ⟨u, e, own_less ho hL, hk⟩
theorem grown_belowD {w w' : World} {g B : Nat} (h : w.grownBy w' (some g)) (hg : B ≤ g) (hB : B ≤ w.heap.size) : Below B w w' :=
  ⟨h.os, h.tape, h.output, h.size, fun k hk => h.block k (by omega) (by simp; omega)⟩
def S1c (g i : Nat) (x : Value) (w : World) : Prop := w.cell? ⟨g, i, none⟩ = some x ∧ True ∧ True
def slenD : Value → Nat
  | .slice _ n _ => n
  | _ => 0
def z40 : List Int := List.replicate 40 0
theorem z40_len : z40.length = 40 := rfl
/-- make([]int64, 40) -/
theorem make40 : ∃ cs : Array Value, cs = (iv z40).toArray ∧ ∀ w : World, (Instr.makeSlice 29 (.int .i64 40) (.int .i64 40)).run Try.prog w = .ok (.slice (some ⟨w.heap.size, 0, none⟩) 40 40) (w.alloc (.cells cs 2)) := by
  obtain ⟨cs, hcs, hz, hmk⟩ := make_run (P := Try.prog) Try.underlying29 info64 40 (by omega) (by unfold maxLen; omega)
  refine ⟨cs, ?_, hmk⟩
  apply Array.ext_getElem?
  intro j
  by_cases hj : j < 40
  · rw [hz j (by omega)]
    have : (iv z40)[j]? = some (.int .i64 0) := iv_get (by unfold z40; rw [List.getElem?_replicate, if_pos hj])
    simp only [List.getElem?_toArray, this]
    simp [Value.cells, Nat.mod_one]
  · rw [Array.getElem?_eq_none (by omega), Array.getElem?_eq_none (by simp [iv_len, z40_len]; omega)]
theorem own40 (w : World) (L : Nat) (hL : L ≤ w.heap.size) : (w.alloc (.cells (iv z40).toArray 2)).ownsRow L 2 1 (.slice (some ⟨w.heap.size, 0, none⟩) 40 40) 40 (iv z40) := by
  have := World.ownsRow_lit (base := L) (e := 2) (size := 1) w (iv z40).toArray 40 hL (by unfold maxLen; omega) (by simp [iv_len, z40_len])
  simpa using this
/-- a plan that is drawn: few rows, none of them long -/
def PlanD (rs : List (List Int)) : Prop := rs.length ≤ 7 ∧ ∀ r ∈ rs, r.length ≤ 40
theorem PlanD.nil : PlanD [] := ⟨by simp, by simp⟩
theorem PlanD.add {rs : List (List Int)} {r : List Int} (h : PlanD rs) (hl : rs.length ≤ 6) (hr : r.length ≤ 40) : PlanD (rs ++ [r]) := by
  refine ⟨by simp; omega, fun x hx => ?_⟩
  rcases List.mem_append.1 hx with hx | hx
  · exact h.2 x hx
  · simp at hx; subst hx; exact hr
def DrawPl (g M : Nat) (w : World) (e : Ending) (w' : World) : Prop := ∃ (v : Value) (rs : List (List Int)), e = .returned v ∧ Own2 w' w.heap.size w'.heap.size 29 2 v rs.length rs ∧ PlanD rs ∧ SrcS w' g (M + 1000) ∧ Tch g (g + 1) w w'
set_option maxRecDepth 100000 in
set_option maxHeartbeats 4000000 in
theorem l18DrawPlan_any (g M : Nat) (w : World) (h : SrcS w g M) (hM : M ≤ 100000) :
    Calls Try.prog 17 #[.pointer (some ⟨g, 0, none⟩)] w (DrawPl g M w) := by
  obtain ⟨cs, hcs, hmk⟩ := make40
  subst hcs
  have hg := h.lt
  have X1 := Lib.hid (own2_empty w 29 2)
  have BA := (Below.refl w.heap.size w).alloc (Nat.le_refl _) (.cells #[] 29)
  have S1 := h.below BA hg
  have T1 := Lib.hid (Tch.of_below BA g (g + 1))
  clear h BA
  go_enter Try.func17, Try.ntmps17
  go_upto_region 2 with fail
  generalize w.alloc (.cells #[] 29) = w1 at X1 S1 T1 ⊢
  have CP := pick_any g M 3 w1 S1 (by omega) (by omega) (by omega)
  clear S1
  go_wp2_with fail
  refine CP.mono ?_
  rintro e w2 ⟨⟨y, rfl, y0, y1⟩, hs2, ht2⟩
  have X2 := Lib.hid ((X1.out.tch ht2 (by omega)).more ht2.size)
  have T2 := Lib.hid (T1.out.trans ht2)
  have S2 := Lib.hid hs2
  clear CP hs2 ht2 X1 T1
  obtain ⟨q, rfl⟩ : ∃ q : Nat, y = (q : Int) := ⟨y.toNat, by omega⟩
  go_wp2_with fail
  go_loopw [4, 3] (fun kv v wr => ∃ (p : Nat) (k : Int) (rs : List (List Int)), p ≤ 3 ∧ k = (p : Int) - 1 ∧ kv = .int .i64 k ∧ rs.length + p = q + 1 ∧ Hid (∀ r ∈ rs, r.length = 40) ∧ Hid (Own2 wr w.heap.size wr.heap.size 29 2 v rs.length rs) ∧ Hid (SrcS wr g (M + 2 + 60 * (3 - p))) ∧ Hid (Tch g (g + 1) w wr)) (fun kv _ _ => (intOf kv + 1).toNat)
  case atStart => exact ⟨q + 1, q, [], by omega, by omega, rfl, by simp, Lib.hid (by simp), X2, Lib.hid (S2.out.mono (by omega)), T2⟩
  case round =>
    obtain ⟨p, k, rs, hp, hk, rfl, hl, D, X, S, T⟩ := hrel
    by_cases hlt : 0 < p
    · have k0 : 0 ≤ k := by omega
      have k2 : k ≤ 2 := by omega
      have HK := Lib.hid hk
      clear hk
      have hsz := T.out.size
      generalize wr = w3 at *
      obtain ⟨B, hB⟩ : ∃ B, B = w3.heap.size := ⟨_, rfl⟩
      have BA := (Below.refl w3.heap.size w3).alloc (Nat.le_refl _) (.cells (iv z40).toArray 2)
      have O4 := own40 w3 B (by omega)
      have X4 := X.out.below BA
      rw [← hB] at O4 X4 hsz
      have O4 := Lib.hid O4
      have X4 := Lib.hid X4
      have S4 := Lib.hid (S.out.below BA (by omega))
      have T4 := Lib.hid (tchD_below2 T.out BA)
      have gB : g + 1 ≤ B := by omega
      have hb4 : Hid (B ≤ (w3.alloc (.cells (iv z40).toArray 2)).heap.size) := Lib.hid (by rw [hB]; simp)
      clear BA X S T
      go_upto_region 6 with fail
      rw [← hB]
      clear hB
      generalize w3.alloc (.cells (iv z40).toArray 2) = w4 at O4 X4 S4 T4 hb4 ⊢
      have CP := pick_any g (M + 2 + 60 * (3 - p)) 6 w4 S4.out (by omega) (by omega) (by omega)
      clear S4
      go_wp2_with fail
      refine CP.mono ?_
      rintro e w5 ⟨⟨y, rfl, y0, y1⟩, hs5, ht5⟩
      have O5 := Lib.hid (own_tch O4.out ht5 gB)
      have X5 := Lib.hid (X4.out.tch ht5 (by omega))
      have T5 := Lib.hid (T4.out.trans ht5)
      have b5 : Hid (B ≤ w5.heap.size) := Lib.hid (Nat.le_trans hb4.out ht5.size)
      have S5 := Lib.hid hs5
      clear CP hs5 ht5 O4 X4 T4 hb4
      obtain ⟨n0, rfl⟩ : ∃ q : Nat, y = (q : Int) := ⟨y.toNat, by omega⟩
      go_wp2_with fail
      go_loopw [6] (fun jv wr => ∃ (n5 : Nat) (r : List Int), n5 ≤ 5 ∧ jv = .int .i64 n5 ∧ Hid (r.length = 40) ∧ Hid (wr.ownsRow B 2 1 (.slice (some ⟨B, 0, none⟩) 40 40) 40 (iv r)) ∧ Hid (Own2 wr w.heap.size B 29 2 u3 rs.length rs) ∧ Hid (SrcS wr g (M + 2 + 60 * (3 - p) + 2 + 6 * (5 - n5))) ∧ Hid (Tch g (g + 1) w wr) ∧ Hid (B ≤ wr.heap.size)) (fun jv _ => (intOf jv).toNat)
      case atStart => exact ⟨n0, z40, by omega, rfl, Lib.hid z40_len, O5, X5, Lib.hid (S5.out.mono (by omega)), T5, b5⟩
      case round =>
        obtain ⟨n5, r, hn5, rfl, r40, O, X, S, T, hb7⟩ := hrel
        have hb8 := hb7.out
        by_cases hq : 0 < n5
        · have CP := pick_any g (M + 2 + 60 * (3 - p) + 2 + 6 * (5 - n5)) 36 wr S.out (by omega) (by omega) (by omega)
          clear S
          go_wp2_with fail
          refine CP.mono ?_
          rintro e w6 ⟨⟨f, rfl, f0, f1⟩, hs6, ht6⟩
          have O6 := Lib.hid (own_tch O.out ht6 gB)
          have X6 := Lib.hid (X.out.tch ht6 (by omega))
          have T6 := Lib.hid (T.out.trans ht6)
          have b6 : Hid (B ≤ w6.heap.size) := Lib.hid (Nat.le_trans hb8 ht6.size)
          have CP2 := pick_any g (M + 2 + 60 * (3 - p) + 2 + 6 * (5 - n5) + 2) 4 w6 hs6 (by omega) (by omega) (by omega)
          clear CP hs6 ht6 O X T hb7 hb8
          go_wp2_with fail
          refine CP2.mono ?_
          rintro e w7 ⟨⟨m, rfl, m0, m1⟩, hs7, ht7⟩
          have O7 := Lib.hid (own_tch O6.out ht7 gB)
          have X7 := Lib.hid (X6.out.tch ht7 (by omega))
          have T7 := Lib.hid (T6.out.trans ht7)
          have b7 : Hid (B ≤ w7.heap.size) := Lib.hid (Nat.le_trans b6.out ht7.size)
          have CP3 := pick_any g (M + 2 + 60 * (3 - p) + 2 + 6 * (5 - n5) + 2 + 2) 8 w7 hs7 (by omega) (by omega) (by omega)
          clear CP2 hs7 ht7 O6 X6 T6 b6
          go_wp2_with fail
          refine CP3.mono ?_
          rintro e w8 ⟨⟨z, rfl, z0, z1⟩, hs8, ht8⟩
          have O8 := Lib.hid (own_tch O7.out ht8 gB)
          have X8 := Lib.hid (X7.out.tch ht8 (by omega))
          have T8 := Lib.hid (T7.out.trans ht8)
          have b8 : Hid (B ≤ w8.heap.size) := Lib.hid (Nat.le_trans b7.out ht8.size)
          have S8 := Lib.hid hs8
          clear CP3 hs8 ht8 O7 X7 T7 b7
          obtain ⟨f, rfl⟩ : ∃ q : Nat, f = (q : Int) := ⟨f.toNat, by omega⟩
          obtain ⟨m, rfl⟩ : ∃ q : Nat, m = (q : Int) := ⟨m.toNat, by omega⟩
          have CF := fill_s (some ⟨B, 0, none⟩) 40 40 f (1 + m) B (1 + z) r w8 O8.out (by omega) (by omega)
          rw [show ((1 + m : Nat) : Int) = 1 + (m : Int) by omega] at CF
          go_wp2_with fail
          refine CF.mono ?_
          rintro e w9 ⟨rfl, o9, g9⟩
          have B9 := grown_belowD (B := B) g9 (Nat.le_refl _) b8.out
          have O9 := Lib.hid o9
          have X9 := Lib.hid (X8.out.belowD B9 (Nat.le_refl _))
          have T9 := Lib.hid (tchD_on T8.out (B9.mono hsz))
          have S9 : Hid (SrcS w9 g (M + 2 + 60 * (3 - p) + 2 + 6 * (5 - (n5 - 1)))) := Lib.hid ((S8.out.below B9 (by omega)).mono (by omega))
          have b9 : Hid (B ≤ w9.heap.size) := Lib.hid (Nat.le_trans b8.out B9.size)
          have r9 : Hid ((fillTo r f (1 + z) (1 + m)).length = 40) := Lib.hid (by rw [fillTo_len]; exact r40.out)
          clear CF o9 g9 B9 O8 X8 T8 b8 S8
          go_wp2_with fail
          go_roundw
          case rel => exact ⟨n5 - 1, _, by omega, by go_num, r9, O9, X9, S9, T9, b9⟩
          case measure => simp [intOf]; omega
        · obtain rfl : n5 = 0 := by omega
          have DD : Hid (∀ x ∈ rs ++ [r], x.length = 40) := Lib.hid (by
            intro x hx
            rcases List.mem_append.1 hx with hx | hx
            · exact D.out x hx
            · simp at hx; subst hx; exact r40.out)
          have OO : Hid (wr.ownsRow B 2 1 (.slice (some ⟨B, 0, none⟩) 40 40) r.length (iv r)) := Lib.hid (by rw [r40.out]; exact O.out)
          go_wp2_with (at_builtin; refine app2u rfl (.tmp 34) (.tmp 36) rfl w.heap.size B u3 (.slice (some ⟨B, 0, none⟩) 40 40) rs r rfl X.out (own_less OO.out hsz) (fun k hk => (OO.out.lt k hk).1) hb8 rfl (by omega) (by omega) ?_; intro v9 w9 o9 b9; have O9 := Lib.hid o9; have S9 := Lib.hid (S.out.below b9 (by omega)); have T9 := Lib.hid (tchD_on T.out b9); clear o9 b9)
          go_roundw
          case rel => exact ⟨p - 1, k - 1, rs ++ [r], by omega, by have := HK.out; omega, by go_num, by simp; omega, DD, O9, Lib.hid (S9.out.mono (by omega)), T9⟩
          case measure => simp [intOf]; omega
    · obtain rfl : p = 0 := by omega
      obtain rfl : k = -1 := by omega
      have l1 : 1 ≤ rs.length := by omega
      have l3 : rs.length ≤ 3 := by omega
      have DD : Hid (PlanD rs) := Lib.hid ⟨by omega, fun r hr => by rw [D.out r hr]; omega⟩
      have hsz := T.out.size
      have CP := pick_any g (M + 2 + 60 * (3 - 0)) 20 wr S.out (by omega) (by omega) (by omega)
      clear S hp hlt hk
      go_wp2_with fail
      refine CP.mono ?_
      rintro e w3 ⟨⟨x, rfl, x0, x1⟩, hs3, ht3⟩
      have X3 := Lib.hid ((X.out.tch ht3 (by omega)).more ht3.size)
      have T3 := Lib.hid (T.out.trans ht3)
      have S3 := Lib.hid hs3
      have hsz3 : w.heap.size ≤ w3.heap.size := T3.out.size
      clear CP hs3 ht3 X T
      by_cases c0 : x = 0
      · subst c0
        obtain ⟨A, c, rfl⟩ := own2_val X3.out
        obtain ⟨r0, hr0, hr0m⟩ := getD_of (l := rs) (i := 0) (by omega)
        have r40 := D.out r0 hr0m
        have HR0 := Lib.hid hr0
        obtain ⟨gA, gi, ci, rfl, cc, _, _, hgi, _⟩ := X3.out.store (by decide) hr0 (show 0 < r0.length by omega)
        rw [r40] at cc
        have hgA : w.heap.size ≤ gA ∧ gA < w3.heap.size := by
          obtain ⟨_, _, vs, h1, _⟩ := X3.out
          exact h1.lt gA rfl
        have hg3 : g < w3.heap.size := by omega
        have R40 := Lib.hid r40
        clear hr0 hr0m r40
        go_upto_region 14 with fail
        refine wp_region_S (S1c gA 0 (.slice (some ⟨gi, 0, none⟩) 40 ci)) 6 (by kernel_rfl) ?_
        have bd : Below w3.heap.size w3 w3.drew := below_drew (Below.refl _ _)
        have X4 := Lib.hid ((X3.out.below bd).more bd.size)
        have S4 := Lib.hid (S3.out.below bd hg3)
        have T4 := Lib.hid (tchD_below2 T3.out bd)
        have cc : w3.drew.cell? ⟨gA, 0, none⟩ = some (.slice (some ⟨gi, 0, none⟩) 40 ci) := cc
        have hgA : w.heap.size ≤ gA ∧ gA < w3.drew.heap.size := hgA
        clear bd X3 S3 T3 hg3 hsz3
        generalize w3.drew = w4 at X4 S4 T4 cc hgA ⊢
        have hsz4 : w.heap.size ≤ w4.heap.size := T4.out.size
        have HS : S1c gA 0 (.slice (some ⟨gi, 0, none⟩) 40 ci) w4 := ⟨cc, trivial, trivial⟩
        have l0 : 0 < rs.length := by omega
        (refine wpAnyS_take0 0 ?_ rfl (by kernel_rfl) (by kernel_rfl) (by kernel_rfl) (by kernel_rfl) (fun _ _ _ h => h) (by rfl) ?_ (fun _ => HS) ?_; rotate_left; (· (intro w; go_simp; (try with_reducible rfl))); try simp only [Act.put, List.setIfInBounds_toArray, List.set_cons_zero, List.set_cons_succ])
        (refine wpAnyS_take0 1 ?_ rfl (by kernel_rfl) (by kernel_rfl) (by kernel_rfl) (by kernel_rfl) (fun _ _ _ h => h) (by rfl) ?_ (fun _ => HS) ?_; rotate_left; (· (intro w; go_simp; (try with_reducible rfl))); try simp only [Act.put, List.setIfInBounds_toArray, List.set_cons_zero, List.set_cons_succ])
        (refine wpAnyS_take 2 ?_ rfl (by kernel_rfl) (by kernel_rfl) (by kernel_rfl) (by kernel_rfl) (by kernel_rfl) (by kernel_rfl) (fun _ _ _ h => h) (by rfl) ?_ HS ?_; rotate_left; (· (intro w hSw; obtain ⟨s1, s2, s3⟩ := hSw; go_simp; (try with_reducible rfl))); try simp only [Act.put, List.setIfInBounds_toArray, List.set_cons_zero, List.set_cons_succ])
        (refine wpAnyS_take0 3 ?_ rfl (by kernel_rfl) (by kernel_rfl) (by kernel_rfl) (by kernel_rfl) (fun _ _ _ h => h) (by rfl) ?_ (fun _ => HS) ?_; rotate_left; (· (intro w; go_simp; (try with_reducible rfl))); try simp only [Act.put, List.setIfInBounds_toArray, List.set_cons_zero, List.set_cons_succ])
        refine wpAnyS_one 4 rfl (by kernel_rfl) (by rfl) ?_
        intro K hK
        go_simp
        have BA := (Below.refl w4.heap.size w4).alloc (Nat.le_refl _) (.cells #[.int .i64 (-1), .int .i64 8, .int .i64 9] 2)
        have RA : RdIn (w4.alloc (.cells #[.int .i64 (-1), .int .i64 8, .int .i64 9] 2)) (g + 1) (w4.alloc (.cells #[.int .i64 (-1), .int .i64 8, .int .i64 9] 2)).heap.size 1 (some ⟨w4.heap.size, 0, none⟩) 3 (iv [-1, 8, 9]) :=
          RdIn.blk (xs := iv [-1, 8, 9]) (Blk.new w4 _ _) rfl (by omega) (by simp)
        have CA := among_any g _ _ 3 3 _ _ (S4.out.below BA (by omega)) (by omega) RA (by omega) (by omega)
        have X5 := Lib.hid ((X4.out.below BA).more BA.size)
        have T5 := Lib.hid (tchD_below2 T4.out BA)
        have cc5 := (BA.cell (p := ⟨gA, 0, none⟩) hgA.2).trans cc
        have hgA : w.heap.size ≤ gA ∧ gA < (w4.alloc (.cells #[.int .i64 (-1), .int .i64 8, .int .i64 9] 2)).heap.size := ⟨hgA.1, by have := BA.size; omega⟩
        refine hK _ _ (fun _ => ⟨cc5, trivial, trivial⟩) ?_
        clear hK HS cc BA RA X4 S4 T4
        obtain ⟨B4, hB4⟩ : ∃ x, x = w4.heap.size := ⟨_, rfl⟩
        rw [← hB4] at CA ⊢
        generalize w4.alloc (.cells #[.int .i64 (-1), .int .i64 8, .int .i64 9] 2) = w5 at CA X5 T5 cc5 hgA ⊢
        clear hB4
        refine wpAnyS_one 5 rfl (by kernel_rfl) (by rfl) ?_
        intro K hK
        go_simp
        refine CA.mono ?_
        rintro e w6 ⟨⟨m, rfl, _⟩, hs6, ht6⟩
        have cc6 := (World.cell?_of_block (w := w5) (a := ⟨gA, 0, none⟩) (ht6.block gA hgA.2 (.inr (by omega)))).trans cc5
        have X6 := Lib.hid ((X5.out.tch ht6 (by omega)).more ht6.size)
        have T6 := Lib.hid (T5.out.trans ht6)
        have S6 := Lib.hid hs6
        try simp only [Act.put, List.setIfInBounds_toArray, List.set_cons_zero, List.set_cons_succ]
        refine hK _ _ (fun _ => ⟨cc6, trivial, trivial⟩) ?_
        clear hK CA hs6 ht6 X5 T5 cc5
        refine wpAnyS_one 6 rfl (by kernel_rfl) (by rfl) ?_
        intro K hK
        go_simp
        refine hK _ _ (fun h => absurd h (by decide +kernel)) ?_
        clear hK
        obtain ⟨gA', gi', ci', e1, cc7, hzs, hfz, hgi', hst⟩ := X6.out.store (by decide) HR0.out (show 0 < r0.length by rw [R40.out]; omega)
        injection e1 with e1
        injection e1 with e1
        subst e1
        rw [R40.out, cc6] at cc7
        injection cc7 with cc7
        injection cc7 with e2 _ e3
        injection e2 with e2
        injection e2 with e2
        subst e2
        obtain ⟨z0, hz0, _⟩ := getD_of (l := r0) (i := 0) (by rw [R40.out]; omega)
        have cz := hzs 0 z0 hz0
        have X7 := Lib.hid (hst m)
        have T7 := Lib.hid (tchD_on T6.out ((Below.refl w.heap.size w6).setCell (p := ⟨gi, 0, none⟩) hgi (.int .i64 m)))
        have S7 := Lib.hid (S6.out.below ((Below.refl w.heap.size w6).setCell (p := ⟨gi, 0, none⟩) hgi (.int .i64 m)) hg)
        clear hzs hst hz0 X6 T6 S6 cc6
        refine wpAnyS_one 7 rfl (by kernel_rfl) (by rfl) ?_
        intro K hK
        go_simp
        refine hK _ _ (fun h => absurd h (by decide +kernel)) ?_
        clear hK cz hfz
        refine wpAnyS_done (by kernel_rfl) ?_
        have DD7 : Hid (PlanD (rs.set 0 (r0.set 0 m))) := Lib.hid ⟨by simp; omega, fun x hx => by
          rcases List.mem_or_eq_of_mem_set hx with hx | hx
          · rw [D.out x hx]; omega
          · rw [hx, List.length_set, R40.out]; omega⟩
        go_wp2_with fail
        go_ret
        exact ⟨_, rs.set 0 (r0.set 0 m), rfl, by rw [List.length_set]; exact X7.out.more (by simp), DD7.out, S7.out.mono (by omega), T7.out⟩
      · have e0 : (x == 0) = false := by simpa using c0
        by_cases c1 : x = 1
        · subst c1
          go_wp2_with (at_builtin; refine app2 rfl (.tmp 51) (.tmp 53) rfl w.heap.size u3 rs [1] _ rfl rfl X3.out rfl hsz3 (by omega) (by unfold maxLen; simp) ?_; intro v9 w9 o9 b9; have O9 := Lib.hid o9; have S9 := Lib.hid (S3.out.below b9 hg); have T9 := Lib.hid (tchD_on T3.out b9); clear o9 b9)
          go_ret
          exact ⟨_, _, rfl, O9.out, DD.out.add (by omega) (by simp), S9.out.mono (by omega), T9.out⟩
        · have e1 : (x == 1) = false := by simpa using c1
          by_cases c2 : x = 2
          · subst c2
            have hg3 : g < w3.heap.size := by omega
            have BA := (Below.refl w3.heap.size w3).alloc (Nat.le_refl _) (.cells #[.int .i64 0, .int .i64 6, .int .i64 7] 2)
            have RA : RdIn (w3.alloc (.cells #[.int .i64 0, .int .i64 6, .int .i64 7] 2)) (g + 1) (w3.alloc (.cells #[.int .i64 0, .int .i64 6, .int .i64 7] 2)).heap.size 1 (some ⟨w3.heap.size, 0, none⟩) 3 (iv [0, 6, 7]) :=
              RdIn.blk (xs := iv [0, 6, 7]) (Blk.new w3 _ _) rfl (by omega) (by simp)
            have CA := among_any g _ _ 3 3 _ _ (S3.out.below BA hg3) (by omega) RA (by omega) (by omega)
            have T4 := Lib.hid (tchD_below2 T3.out BA)
            clear BA RA S3 X3 T3
            go_wp2_with fail
            refine CA.mono ?_
            rintro e w5 ⟨⟨m, rfl, hm⟩, hs5, ht5⟩
            have mb : 0 ≤ m ∧ m ≤ 7 := by simp at hm; omega
            have T5 := Lib.hid (T4.out.trans ht5)
            have hsz5 : w.heap.size ≤ w5.heap.size := T5.out.size
            have BA := (Below.refl w5.heap.size w5).alloc (Nat.le_refl _) (.cells #[] 29)
            have X6 := Lib.hid (own2_empty w5 29 2)
            have S6 := Lib.hid (hs5.below BA (by omega))
            have s6 := Lib.hid BA.size
            have T6 := Lib.hid (tchD_below2 T5.out BA)
            clear BA T5 hs5 ht5 CA T4 hm
            go_wp2_with fail
            generalize w5.alloc (.cells #[] 29) = w6 at X6 S6 T6 s6 ⊢
            go_loopw [3] (fun v wr => ∃ rs : List (List Int), rs.length ≤ 7 ∧ Hid (∀ r ∈ rs, r.length = 40) ∧ Hid (Own2 wr w5.heap.size wr.heap.size 29 2 v rs.length rs) ∧ Hid (SrcS wr g (M + 2 + 60 * (3 - 0) + 2 + 2)) ∧ Hid (Tch g (g + 1) w wr) ∧ Hid (w5.heap.size ≤ wr.heap.size)) (fun v _ => 8 - slenD v)
            case atStart => exact ⟨[], by simp, Lib.hid (by simp), X6, S6, T6, s6⟩
            case round =>
              obtain ⟨rs, hr7, D, X, S, T, hs⟩ := hrel
              obtain ⟨A, c, rfl⟩ := own2_val X.out
              have hs2 := hs.out
              by_cases hlt : (rs.length : Int) < m
              · have BA := (Below.refl wr.heap.size wr).alloc (Nat.le_refl _) (.cells (iv z40).toArray 2)
                have O4 := Lib.hid (own40 wr w5.heap.size hs2)
                have X4 := Lib.hid (X.out.below BA)
                have S4 := Lib.hid (S.out.below BA (by omega))
                have T4 := Lib.hid (tchD_below2 T.out BA)
                have s4 : wr.heap.size ≤ (wr.alloc (.cells (iv z40).toArray 2)).heap.size := by simp
                have s5 : (wr.alloc (.cells (iv z40).toArray 2)).heap.size = wr.heap.size + 1 := by simp
                have DD : Hid (∀ x ∈ rs ++ [z40], x.length = 40) := Lib.hid (by
                  intro x hx
                  rcases List.mem_append.1 hx with hx | hx
                  · exact D.out x hx
                  · simp at hx; subst hx; exact z40_len)
                clear BA X S T
                go_wp2_with (at_builtin; refine app2u rfl (.tmp 65) (.tmp 67) rfl w5.heap.size wr.heap.size (.slice A rs.length c) (.slice (some ⟨wr.heap.size, 0, none⟩) 40 40) rs z40 rfl X4.out O4.out (fun k hk => by simp [Value.ownBlock] at hk; omega) s4 (by rw [s5]; rfl) (Nat.le_trans hs2 s4) (by omega) ?_; intro v9 w9 o9 b9; have O9 := Lib.hid o9; have S9 := Lib.hid (S4.out.below b9 (by omega)); have T9 := Lib.hid (tchD_on T4.out (b9.mono hsz5)); have H9 := Lib.hid (Nat.le_trans (Nat.le_trans hs2 s4) b9.size); clear o9 b9)
                obtain ⟨A9, c9, rfl⟩ := own2_val O9.out
                go_roundw
                case rel => exact ⟨rs ++ [z40], by simp; omega, DD, O9, S9, T9, H9⟩
                case measure => simp [slenD]; omega
              · go_wp2_with fail
                go_ret
                exact ⟨_, rs, rfl, own2_lessD X.out hsz5, ⟨hr7, fun r hr => by rw [D.out r hr]; omega⟩, S.out.mono (by omega), T.out⟩
          · have e2 : (x == 2) = false := by simpa using c2
            go_wp2_with fail
            go_ret
            exact ⟨_, rs, rfl, X3.out, DD.out, S3.out.mono (by omega), T3.out⟩
end Go.Proofs.Ytnfmnllkplpgeaa
