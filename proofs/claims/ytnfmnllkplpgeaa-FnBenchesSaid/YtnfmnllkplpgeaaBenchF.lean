/- What FnBenches draws. -/
import Derived.Test.YtnfmnllkplpgeaaBenchD
set_option linter.unusedVariables false
set_option linter.unusedSimpArgs false
namespace Go.Proofs.Ytnfmnllkplpgeaa
open Go.RowKit

theorem b10Long_any (A : Option Addr) (c n : Nat) (w : World) (h : n ≤ maxLen) :
    Calls Try.prog 4 #[.slice A n c] w fun e w' => e = .returned (.bool (decide (1048576 < (n : Int)))) ∧ w = w' := by
  unfold maxLen at h
  rcases Nat.lt_or_ge 1048576 n with a | a
  · go_enter Try.func4, Try.ntmps4
    go_wp2
    go_ret
    exact ⟨ret_bool (by simp; try omega), rfl⟩
  · go_enter Try.func4, Try.ntmps4
    go_wp2
    go_ret
    exact ⟨ret_bool (by simp; try omega), rfl⟩
set_option maxHeartbeats 1000000 in
theorem b10Has_any (A : Option Addr) (c n : Nat) (zs : List Int) (x : Int) (w : World) (h : Rd w w.heap.size 1 A n (iv zs)) (hn : n ≤ 1048576) :
    Calls Try.prog 11 #[.slice A n c, .int .i64 x] w fun e w' => e = .returned (.bool (decide (x ∈ zs))) ∧ w = w' := by
  have HN := Lib.hid h.len
  have H := Lib.hid h
  clear h
  go_enter Try.func11, Try.ntmps11
  go_wp2
  go_loop [5] (fun i => ∃ j : Nat, j ≤ n ∧ i = .int .i64 j ∧ Hid (∀ k, k < j → zs[k]? ≠ some x)) (fun i => n - (intOf i).toNat)
  case atStart => exact ⟨0, Nat.zero_le _, rfl, Lib.hid (fun k hk => absurd hk (by omega))⟩
  case round =>
    obtain ⟨j, hj, rfl, hf⟩ := hrel
    by_cases hlt : j < n
    · obtain ⟨z, hz, hzm⟩ := getD_of (l := zs) (i := j) (by rw [HN.out]; exact hlt)
      obtain ⟨b, o, rfl, hbB, hc⟩ := H.out.ints (by omega)
      have c0 : w.cell? ⟨b, o + j, none⟩ = some (.int .i64 z) := hc j z hz
      by_cases hq : z = x
      · subst hq
        have HF := Lib.hid (decide_eq_true hzm)
        clear hc hz hzm
        go_wp2
        go_ret
        exact ⟨ret_bool HF.out.symm, rfl⟩
      · have hf2 : Hid (∀ k, k < j + 1 → zs[k]? ≠ some x) := Lib.hid (fun k hk => by
          by_cases e : k = j
          · subst e; rw [hz]; intro e; injection e with e; exact hq e
          · exact hf.out k (by omega))
        have e1 : (z == x) = false := by simpa using hq
        clear hc hz hzm
        go_wp2
        go_round
        case rel => exact ⟨j + 1, by omega, by go_num, hf2⟩
        case measure => simp [intOf]; omega
    · obtain rfl : j = n := by omega
      have HF : Hid (decide (x ∈ zs) = false) := Lib.hid (decide_eq_false (fun hm => by
        obtain ⟨k, hk, e⟩ := List.mem_iff_getElem.1 hm
        exact hf.out k (by rw [← HN.out]; exact hk) (by rw [List.getElem?_eq_getElem hk, e])))
      go_wp2
      go_ret
      exact ⟨ret_bool HF.out.symm, rfl⟩
theorem l00Max_is (a b z : Int) (h : z = if b < a then a else b) (w : World) :
    Calls Try.prog 19 #[.int .i64 a, .int .i64 b] w fun e w' => e = .returned (.int .i64 z) ∧ w = w' := by
  subst h
  by_cases h : b < a
  · rw [if_pos h]
    go_enter Try.func19, Try.ntmps19
    go_wp2
    go_ret
    exact ⟨rfl, rfl⟩
  · rw [if_neg h]
    go_enter Try.func19, Try.ntmps19
    go_wp2
    go_ret
    exact ⟨rfl, rfl⟩
set_option maxHeartbeats 1000000 in
theorem l18DrawWork_any (g M : Nat) (w : World) (h : SrcS w g M) (hM : M ≤ 1000000) :
    Calls Try.prog 21 #[.pointer (some ⟨g, 0, none⟩)] w fun e w' => (∃ x : Int, e = .returned (.int .i64 x) ∧ 0 ≤ x ∧ x ≤ 9) ∧ SrcS w' g (M + 2) ∧ Tch g (g + 1) w w' := by
  have hg := h.lt
  have BA := (Below.refl w.heap.size w).alloc (Nat.le_refl _) (.cells #[.int .i64 1, .int .i64 2, .int .i64 3, .int .i64 5, .int .i64 8, .int .i64 9, .int .i64 0] 2)
  have RA : RdIn (w.alloc (.cells #[.int .i64 1, .int .i64 2, .int .i64 3, .int .i64 5, .int .i64 8, .int .i64 9, .int .i64 0] 2)) (g + 1) (w.alloc (.cells #[.int .i64 1, .int .i64 2, .int .i64 3, .int .i64 5, .int .i64 8, .int .i64 9, .int .i64 0] 2)).heap.size 1 (some ⟨w.heap.size, 0, none⟩) 7 (iv [1, 2, 3, 5, 8, 9, 0]) :=
    RdIn.blk (xs := iv [1, 2, 3, 5, 8, 9, 0]) (Blk.new w _ _) rfl (by omega) (by simp)
  have CA := among_any g M _ 7 7 _ _ (h.below BA hg) (by omega) RA (by omega) (by omega)
  have T1 := Lib.hid (Tch.of_below BA g (g + 1))
  clear h BA RA
  go_enter Try.func21, Try.ntmps21
  go_wp2_with fail
  refine CA.mono ?_
  rintro e w1 ⟨⟨m, rfl, hm⟩, hs, ht⟩
  have mb : 0 ≤ m ∧ m ≤ 9 := by simp at hm; omega
  have T2 := Lib.hid (T1.out.trans ht)
  have S2 := Lib.hid hs
  clear hs ht hm CA T1
  go_wp2
  go_ret
  exact ⟨⟨m, rfl, mb.1, mb.2⟩, S2.out, T2.out⟩
def DrawBk (w : World) (e : Ending) (w' : World) : Prop := ∃ (v : Value) (rs : List (List Int)) (bn fr dy wk : Int), e = .returned (.tuple #[v, .int .i64 bn, .int .i64 fr, .int .i64 dy, .int .i64 wk]) ∧ Own2 w' w.heap.size w'.heap.size 29 2 v rs.length rs ∧ PlanD rs ∧ (0 ≤ bn ∧ bn ≤ 7) ∧ (-1 ≤ fr ∧ fr ≤ 41) ∧ (0 ≤ dy ∧ dy ≤ 41) ∧ (0 ≤ wk ∧ wk ≤ 9) ∧ Below w.heap.size w w'
def DrawDp (w : World) (e : Ending) (w' : World) : Prop := ∃ (v : Value) (rs : List (List Int)) (wk : Int), e = .returned (.tuple #[v, .int .i64 wk]) ∧ Own2 w' w.heap.size w'.heap.size 29 2 v rs.length rs ∧ PlanD rs ∧ (0 ≤ wk ∧ wk ≤ 9) ∧ Below w.heap.size w w'
def DrawFf (w : World) (e : Ending) (w' : World) : Prop := ∃ (v : Value) (rs : List (List Int)) (dy fr : Int), e = .returned (.tuple #[v, .int .i64 dy, .int .i64 fr]) ∧ Own2 w' w.heap.size w'.heap.size 29 2 v rs.length rs ∧ PlanD rs ∧ (0 ≤ dy ∧ dy ≤ 41) ∧ (-1 ≤ fr ∧ fr ≤ 40) ∧ Below w.heap.size w w'
/-- a source from bytes, then a plan -/
theorem src_plan {w w1 w2 : World} {rs : List (List Int)} {v : Value} {M : Nat} (hb1 : Below w.heap.size w w1) (h1 : w.heap.size < w1.heap.size) (h : Own2 w2 w1.heap.size w2.heap.size 29 2 v rs.length rs) (ht : Tch w.heap.size (w.heap.size + 1) w1 w2) :
    Below w.heap.size w w2 := ht.below hb1 (Nat.le_refl _) hb1.size
set_option maxHeartbeats 2000000 in
theorem DrawDropWork_any (A : Option Addr) (c m : Nat) (bs : List Int) (w : World) (h : Rd w w.heap.size 1 A m (bv bs)) (hb : ∀ b ∈ bs, byteR b) (hm : m ≤ 1048576) :
    Calls Try.prog 12 #[.slice A m c] w (DrawDp w) := by
  have C1 := l00From_any A c m bs w h hb hm
  clear h hb
  go_enter Try.func12, Try.ntmps12
  go_wp2_with fail
  refine C1.mono ?_
  rintro r w1 ⟨rfl, hs1, hb1⟩
  have B1 := Lib.hid hb1
  have hg1 := hs1.lt
  have C2 := l18DrawPlan_any w.heap.size 0 w1 (hs1.mono (by omega)) (by omega)
  clear C1 hs1 hb1
  go_wp2_with fail
  refine C2.mono ?_
  rintro r w2 ⟨v, rs, rfl, X2, D, S2, T2⟩
  have C3 := l18DrawWork_any w.heap.size _ w2 S2 (by omega)
  have X2 := Lib.hid X2
  have T2 := Lib.hid T2
  have DD := Lib.hid D
  clear C2 S2 D
  go_wp2_with fail
  refine C3.mono ?_
  rintro r w3 ⟨⟨x, rfl, x0, x1⟩, S3, T3⟩
  have X3 := Lib.hid ((X2.out.tch T3 (by omega)).more T3.size)
  have T4 := Lib.hid (T2.out.trans T3)
  have B4 := Lib.hid (T4.out.below B1.out (Nat.le_refl _) B1.out.size)
  have l1 := B1.out.size
  clear C3 S3 T3 X2 T2 B1
  go_wp2
  go_ret2
  exact ⟨v, rs, x, rfl, own2_lessD X3.out l1, DD.out, ⟨x0, x1⟩, B4.out⟩
theorem results_tmp5 {fn : Func} {t u v x y : Tmp} (h : fn.results = #[.tmp t, .tmp u, .tmp v, .tmp x, .tmp y]) (tmps : Array Value) (P : Program) (w : World) :
    (results fn tmps).run P w = .ok (.tuple #[tmps.getD t undef, tmps.getD u undef, tmps.getD v undef, tmps.getD x undef, tmps.getD y undef]) w := by
  simp [results, h]
set_option maxHeartbeats 2000000 in
theorem DrawFirstFree_any (A : Option Addr) (c m : Nat) (bs : List Int) (w : World) (h : Rd w w.heap.size 1 A m (bv bs)) (hb : ∀ b ∈ bs, byteR b) (hm : m ≤ 1048576) :
    Calls Try.prog 14 #[.slice A m c] w (DrawFf w) := by
  have C1 := l00From_any A c m bs w h hb hm
  clear h hb
  go_enter Try.func14, Try.ntmps14
  go_wp2_with fail
  refine C1.mono ?_
  rintro r w1 ⟨rfl, hs1, hb1⟩
  have B1 := Lib.hid hb1
  have hg1 := hs1.lt
  have l1 := Lib.hid hb1.size
  have C2 := l18DrawPlan_any w.heap.size 0 w1 (hs1.mono (by omega)) (by omega)
  clear C1 hs1 hb1
  go_wp2_with fail
  refine C2.mono ?_
  rintro r w2 ⟨v, rs, rfl, X2, D, S2, T2⟩
  obtain ⟨V, cv, rfl⟩ := own2_val X2
  have X2 := Lib.hid X2
  have T2 := Lib.hid T2
  have DD := Lib.hid D
  have r7 := D.1
  clear C2 D
  have BA3 := (Below.refl w2.heap.size w2).alloc (Nat.le_refl _) (.cells #[.int .i64 0, .int .i64 1, .int .i64 3, .int .i64 8, .int .i64 20, .int .i64 40, .int .i64 41] 2)
  have RA3 : RdIn (w2.alloc (.cells #[.int .i64 0, .int .i64 1, .int .i64 3, .int .i64 8, .int .i64 20, .int .i64 40, .int .i64 41] 2)) (w.heap.size + 1) (w2.alloc (.cells #[.int .i64 0, .int .i64 1, .int .i64 3, .int .i64 8, .int .i64 20, .int .i64 40, .int .i64 41] 2)).heap.size 1 (some ⟨w2.heap.size, 0, none⟩) 7 (iv [0, 1, 3, 8, 20, 40, 41]) :=
    RdIn.blk (xs := iv [0, 1, 3, 8, 20, 40, 41]) (Blk.new w2 _ _) rfl (by have := T2.out.size; omega) (by simp)
  have CA3 := among_any w.heap.size _ _ 7 7 _ _ (S2.below BA3 S2.lt) (by omega) RA3 (by omega) (by omega)
  have X3 := Lib.hid ((X2.out.below BA3).more BA3.size)
  have T3 := Lib.hid (tchD_below2 T2.out BA3)
  clear BA3 RA3 X2 T2 S2
  go_wp2_with fail
  refine CA3.mono ?_
  rintro r w3 ⟨⟨dy, rfl, hdy⟩, S3, ht3⟩
  have dyb : 0 ≤ dy ∧ dy ≤ 41 := by simp at hdy; omega
  have X3b := Lib.hid ((X3.out.tch ht3 (by omega)).more ht3.size)
  have T3b := Lib.hid (T3.out.trans ht3)
  clear CA3 ht3 X3 T3 hdy
  have BA4 := (Below.refl w3.heap.size w3).alloc (Nat.le_refl _) (.cells #[.int .i64 (-1), .int .i64 0, .int .i64 5, .int .i64 20, .int .i64 39, .int .i64 40] 2)
  have RA4 : RdIn (w3.alloc (.cells #[.int .i64 (-1), .int .i64 0, .int .i64 5, .int .i64 20, .int .i64 39, .int .i64 40] 2)) (w.heap.size + 1) (w3.alloc (.cells #[.int .i64 (-1), .int .i64 0, .int .i64 5, .int .i64 20, .int .i64 39, .int .i64 40] 2)).heap.size 1 (some ⟨w3.heap.size, 0, none⟩) 6 (iv [-1, 0, 5, 20, 39, 40]) :=
    RdIn.blk (xs := iv [-1, 0, 5, 20, 39, 40]) (Blk.new w3 _ _) rfl (by have := T3b.out.size; omega) (by simp)
  have CA4 := among_any w.heap.size _ _ 6 6 _ _ (S3.below BA4 S3.lt) (by omega) RA4 (by omega) (by omega)
  have X4 := Lib.hid ((X3b.out.below BA4).more BA4.size)
  have T4 := Lib.hid (tchD_below2 T3b.out BA4)
  clear BA4 RA4 X3b T3b S3
  go_wp2_with fail
  refine CA4.mono ?_
  rintro r w4 ⟨⟨fr, rfl, hfr⟩, S4, ht4⟩
  have frb : -1 ≤ fr ∧ fr ≤ 40 := by simp at hfr; omega
  have X4b := Lib.hid ((X4.out.tch ht4 (by omega)).more ht4.size)
  have T4b := Lib.hid (T4.out.trans ht4)
  clear CA4 ht4 X4 T4 hfr
  have B5 := Lib.hid (T4b.out.below B1.out (Nat.le_refl _) B1.out.size)
  go_wp2
  go_ret3
  exact ⟨_, rs, dy, fr, rfl, own2_lessD X4b.out l1.out, DD.out, dyb, frb, B5.out⟩
set_option maxHeartbeats 2000000 in
theorem DrawBookDays_any (A : Option Addr) (c m : Nat) (bs : List Int) (w : World) (h : Rd w w.heap.size 1 A m (bv bs)) (hb : ∀ b ∈ bs, byteR b) (hm : m ≤ 1048576) :
    Calls Try.prog 5 #[.slice A m c] w (DrawBk w) := by
  have C1 := l00From_any A c m bs w h hb hm
  clear h hb
  go_enter Try.func5, Try.ntmps5
  go_wp2_with fail
  refine C1.mono ?_
  rintro r w1 ⟨rfl, hs1, hb1⟩
  have B1 := Lib.hid hb1
  have hg1 := hs1.lt
  have l1 := Lib.hid hb1.size
  have C2 := l18DrawPlan_any w.heap.size 0 w1 (hs1.mono (by omega)) (by omega)
  clear C1 hs1 hb1
  go_wp2_with fail
  refine C2.mono ?_
  rintro r w2 ⟨v, rs, rfl, X2, D, S2, T2⟩
  obtain ⟨V, cv, rfl⟩ := own2_val X2
  have X2 := Lib.hid X2
  have T2 := Lib.hid T2
  have DD := Lib.hid D
  have r7 := D.1
  clear C2 D
  obtain ⟨z, hz⟩ : ∃ z : Int, z = if (rs.length : Int) < 1 then 1 else (rs.length : Int) := ⟨_, rfl⟩
  have CM := Lib.hid (fun w => l00Max_is 1 (rs.length : Int) z hz w)
  have zb : 1 ≤ z ∧ z ≤ 7 := by rw [hz]; split <;> omega
  clear hz
  have CP := pick_any w.heap.size _ z w2 S2 (by omega) (by omega) (by omega)
  clear S2
  go_wp2_with ((go_at_call 19; refine (CM.out _).mono ?_; rintro e w' ⟨rfl, rfl⟩))
  refine CP.mono ?_
  rintro r w3 ⟨⟨bn, rfl, bn0, bn1⟩, S3, ht3⟩
  have X3 := Lib.hid ((X2.out.tch ht3 (by omega)).more ht3.size)
  have T3 := Lib.hid (T2.out.trans ht3)
  have CP2 := pick_any w.heap.size _ 42 w3 S3 (by omega) (by omega) (by omega)
  clear CP S3 ht3 X2 T2 CM
  go_wp2_with fail
  refine CP2.mono ?_
  rintro r w4 ⟨⟨f, rfl, f0, f1⟩, S4, ht4⟩
  have X4 := Lib.hid ((X3.out.tch ht4 (by omega)).more ht4.size)
  have T4 := Lib.hid (T3.out.trans ht4)
  clear CP2 ht4 X3 T3
  have BA5 := (Below.refl w4.heap.size w4).alloc (Nat.le_refl _) (.cells #[.int .i64 0, .int .i64 1, .int .i64 1, .int .i64 2, .int .i64 3, .int .i64 40, .int .i64 41] 2)
  have RA5 : RdIn (w4.alloc (.cells #[.int .i64 0, .int .i64 1, .int .i64 1, .int .i64 2, .int .i64 3, .int .i64 40, .int .i64 41] 2)) (w.heap.size + 1) (w4.alloc (.cells #[.int .i64 0, .int .i64 1, .int .i64 1, .int .i64 2, .int .i64 3, .int .i64 40, .int .i64 41] 2)).heap.size 1 (some ⟨w4.heap.size, 0, none⟩) 7 (iv [0, 1, 1, 2, 3, 40, 41]) :=
    RdIn.blk (xs := iv [0, 1, 1, 2, 3, 40, 41]) (Blk.new w4 _ _) rfl (by have := T4.out.size; omega) (by simp)
  have CA5 := among_any w.heap.size _ _ 7 7 _ _ (S4.below BA5 S4.lt) (by omega) RA5 (by omega) (by omega)
  have X5 := Lib.hid ((X4.out.below BA5).more BA5.size)
  have T5 := Lib.hid (tchD_below2 T4.out BA5)
  clear BA5 RA5 X4 T4 S4
  go_wp2_with fail
  refine CA5.mono ?_
  rintro r w5 ⟨⟨dy, rfl, hdy⟩, S5, ht5⟩
  have dyb : 0 ≤ dy ∧ dy ≤ 41 := by simp at hdy; omega
  have X5b := Lib.hid ((X5.out.tch ht5 (by omega)).more ht5.size)
  have T5b := Lib.hid (T5.out.trans ht5)
  clear CA5 ht5 X5 T5 hdy
  have CW := l18DrawWork_any w.heap.size _ w5 S5 (by omega)
  clear S5
  go_wp2_with fail
  refine CW.mono ?_
  rintro r w6 ⟨⟨wk, rfl, wk0, wk1⟩, S6, ht6⟩
  have X6 := Lib.hid ((X5b.out.tch ht6 (by omega)).more ht6.size)
  have T6 := Lib.hid (T5b.out.trans ht6)
  have B6 := Lib.hid (T6.out.below B1.out (Nat.le_refl _) B1.out.size)
  clear CW S6 ht6 X5b T5b
  go_wp2
  (try simp only [Exit.inBlock, Exit.then])
  refine bodyPost_ret (results_tmp5 rfl _ _ _) rfl ?_
  exact ⟨_, rs, bn, f - 1, dy, wk, rfl, own2_lessD X6.out l1.out, DD.out, ⟨bn0, by omega⟩, by omega, dyb, ⟨wk0, wk1⟩, B6.out⟩
end Go.Proofs.Ytnfmnllkplpgeaa
