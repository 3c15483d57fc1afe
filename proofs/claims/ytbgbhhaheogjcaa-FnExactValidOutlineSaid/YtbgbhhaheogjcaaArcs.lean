/- Contracts over points and arcs. -/
import Derived.Test.YtbgbhhaheogjcaaNum
import Derived.Test.YtbgbhhaheogjcaaMem
import Derived.Deep.RegionHeld3
import Derived.Laws.StructEq
set_option linter.unusedVariables false
namespace Go.Proofs.Ytbgbhhaheogjcaa
open Go.RowKit

theorem isCoord_any (n : Int) (w : World) :
    Calls Try.prog 136 #[.int .i64 n] w fun e w' => e = .returned (.bool (inB n ((-100000)) (100000))) ∧ w = w' := by
  go_enter Try.func136, Try.ntmps136
  go_wp2_with (go_at_call 75; refine (within_any _ _ _ _).mono ?_; rintro e w' ⟨rfl, rfl⟩)
  go_ret
  exact ⟨rfl, rfl⟩
def ptB (x y : Int) : Bool := inB x (-100000) 100000 && inB y (-100000) 100000
theorem ptB_x {x y : Int} (h : inB x (-100000) 100000 = false) : ptB x y = false := by simp [ptB, h]
theorem ptB_y {x y : Int} (h : inB x (-100000) 100000 = true) : ptB x y = inB y (-100000) 100000 := by simp [ptB, h]
theorem ptB_t {x y : Int} (h : ptB x y = true) : -100000 ≤ x ∧ x ≤ 100000 ∧ -100000 ≤ y ∧ y ≤ 100000 := by
  simp only [ptB, Bool.and_eq_true] at h
  have a := inB_t h.1
  have b := inB_t h.2
  omega
def sqL (a b c d : Int) : Int := (a - c) * (a - c) + (b - d) * (b - d)
theorem sq_bd {n : Int} (h : -200000 ≤ n) (g : n ≤ 200000) : 0 ≤ n * n ∧ n * n ≤ 40000000000 := by
  rcases Int.le_total 0 n with k | k
  · have := mul_bd k g k g; omega
  · have := mul_bd (a := -n) (b := -n) (A := 200000) (B := 200000) (by omega) (by omega) (by omega) (by omega)
    rw [Int.neg_mul_neg] at this; omega
theorem wide_mul {a b : Int} (h : -200000 ≤ a ∧ a ≤ 200000) (g : -200000 ≤ b ∧ b ≤ 200000) : -40000000000 ≤ a * b ∧ a * b ≤ 40000000000 := by
  rcases Int.le_total 0 a with k | k <;> rcases Int.le_total 0 b with l | l
  · have := mul_bd k h.2 l g.2; omega
  · have := mul_bd (b := -b) (B := 200000) k h.2 (by omega) (by omega)
    rw [Int.mul_neg] at this; omega
  · have := mul_bd (a := -a) (A := 200000) (by omega) (by omega) l g.2
    rw [Int.neg_mul] at this; omega
  · have := mul_bd (a := -a) (A := 200000) (b := -b) (B := 200000) (by omega) (by omega) (by omega) (by omega)
    rw [Int.neg_mul_neg] at this; omega
abbrev ptV (x y : Int) : Value := .agg #[.int .i64 x, .int .i64 y]
abbrev arcV (a b c d e f : Int) : Value := .agg #[.int .i64 a, .int .i64 b, .int .i64 c, .int .i64 d, .int .i64 e, .int .i64 f]

theorem toPoint_any (x y : Int) (w : World) :
    Calls Try.prog 126 #[ptV x y] w fun e w' => e = .returned (ptV x y) ∧ Below w.heap.size w w' := by
  go_enter Try.func126, Try.ntmps126
  go_wp2
  refine bodyPost_ret (v := ptV x y) (by simp [results, Try.results126, go_sem]) rfl ⟨rfl, ?_⟩
  exact (((Below.refl _ _).alloc (Nat.le_refl _) _).alloc (by simp) _).alloc (by simp; omega) _
theorem squared_any (a b c d : Int) (w : World) (h : ptB a b = true) (g : ptB c d = true) :
    Calls Try.prog 128 #[ptV a b, ptV c d] w fun e w' => e = .returned (.int .i64 (sqL a b c d)) ∧ Below w.heap.size w w' := by
  have k := ptB_t h
  have l := ptB_t g
  have m := sq_bd (n := a - c) (by omega) (by omega)
  have o := sq_bd (n := b - d) (by omega) (by omega)
  clear h g
  go_enter Try.func128, Try.ntmps128
  go_wp2
  go_ret
  exact ⟨rfl, (((Below.refl _ _).alloc (Nat.le_refl _) _).alloc (by simp) _)⟩
theorem l05Square_any (a b c d : Int) (w : World) (h : ptB a b = true) (g : ptB c d = true) :
    Calls Try.prog 135 #[ptV a b, ptV c d] w fun e w' => e = .returned (.int .i64 (sqL a b c d)) ∧ Below w.heap.size w w' := by
  have k := ptB_t h
  have l := ptB_t g
  have m := sq_bd (n := a - c) (by omega) (by omega)
  have o := sq_bd (n := b - d) (by omega) (by omega)
  clear h g
  go_enter Try.func135, Try.ntmps135
  go_wp2
  go_ret
  exact ⟨rfl, (((Below.refl _ _).alloc (Nat.le_refl _) _).alloc (by simp) _)⟩
theorem pvalid_any (x y : Int) (w : World) :
    Calls Try.prog 127 #[ptV x y] w fun e w' => e = .returned (.bool (ptB x y)) ∧ Below w.heap.size w w' := by
  cases h : inB x (-100000) 100000
  · rw [ptB_x h]
    go_enter Try.func127, Try.ntmps127
    go_wp2_with (go_at_call 136; refine (isCoord_any _ _).mono ?_; rintro e w' ⟨rfl, rfl⟩)
    go_ret
    exact ⟨rfl, (Below.refl _ _).alloc (Nat.le_refl _) _⟩
  · rw [ptB_y h]
    go_enter Try.func127, Try.ntmps127
    go_wp2_with (go_at_call 136; refine (isCoord_any _ _).mono ?_; rintro e w' ⟨rfl, rfl⟩)
    go_ret
    exact ⟨rfl, (Below.refl _ _).alloc (Nat.le_refl _) _⟩
theorem l05Point_any (x y : Int) (w : World) :
    Calls Try.prog 134 #[ptV x y] w fun e w' => e = .returned (.bool (ptB x y)) ∧ Below w.heap.size w w' := by
  cases h : inB x (-100000) 100000
  · rw [ptB_x h]
    go_enter Try.func134, Try.ntmps134
    go_wp2_with (go_at_call 71; refine (l00In_any _ _ _ _).mono ?_; rintro e w' ⟨rfl, rfl⟩)
    go_ret
    exact ⟨rfl, (Below.refl _ _).alloc (Nat.le_refl _) _⟩
  · rw [ptB_y h]
    go_enter Try.func134, Try.ntmps134
    go_wp2_with (go_at_call 71; refine (l00In_any _ _ _ _).mono ?_; rintro e w' ⟨rfl, rfl⟩)
    go_ret
    exact ⟨rfl, (Below.refl _ _).alloc (Nat.le_refl _) _⟩
def Three (w : World) (N : Nat) (xs ys zs : Array Value) : Prop := Blk w N 113 xs ∧ Blk w (N + 1) 109 ys ∧ Blk w (N + 1 + 1) 109 zs
theorem three_new (w : World) (xs ys zs : Array Value) : Three (((w.alloc (.cells xs 113)).alloc (.cells ys 109)).alloc (.cells zs 109)) w.heap.size xs ys zs := by
  refine ⟨((Blk.new w _ xs).alloc _).alloc _, ?_, ?_⟩
  · have := (Blk.new (w.alloc (.cells xs 113)) 109 ys).alloc (.cells zs 109)
    simpa using this
  · have := Blk.new ((w.alloc (.cells xs 113)).alloc (.cells ys 109)) 109 zs
    simpa using this
theorem Three.below {w w' : World} {N : Nat} {xs ys zs : Array Value} (h : Three w N xs ys zs) (hb : Below w.heap.size w w') : Three w' N xs ys zs :=
  ⟨h.1.below hb h.1.lt, h.2.1.below hb h.2.1.lt, h.2.2.below hb h.2.2.lt⟩
theorem Three.set_ {w : World} {N : Nat} {xs ys zs : Array Value} (h : Three w N xs ys zs) (i : Nat) (u : Value) : Three (w.setCell ⟨N + 1 + 1, i, none⟩ u) N xs ys (zs.setIfInBounds i u) :=
  ⟨h.1.far (by simp; omega) u, h.2.1.far (by simp) u, h.2.2.set_ i u⟩
theorem below_set2 {B N : Nat} {w w' : World} (h : Below B w w') (hN : B ≤ N) (i j : Nat) (u v : Value) : Below B w ((w'.setCell ⟨N, i, none⟩ u).setCell ⟨N, j, none⟩ v) :=
  (h.setCell (p := ⟨N, i, none⟩) hN u).setCell (p := ⟨N, j, none⟩) hN v
set_option maxHeartbeats 1000000 in
theorem toArc_any (a b c d e f : Int) (w : World) :
    Calls Try.prog 90 #[arcV a b c d e f] w fun r w' => r = .returned (arcV a b c d e f) ∧ Below w.heap.size w w' := by
  have t0 := Lib.hid (three_new w #[.int .i64 a, .int .i64 b, .int .i64 c, .int .i64 d, .int .i64 e, .int .i64 f] #[.int .i64 0, .int .i64 0, .int .i64 0, .int .i64 0, .int .i64 0, .int .i64 0] #[.int .i64 0, .int .i64 0, .int .i64 0, .int .i64 0, .int .i64 0, .int .i64 0])
  have B0 := Lib.hid ((((Below.refl w.heap.size w).alloc (Nat.le_refl _) (.cells #[.int .i64 a, .int .i64 b, .int .i64 c, .int .i64 d, .int .i64 e, .int .i64 f] 113)).alloc (by simp) (.cells #[.int .i64 0, .int .i64 0, .int .i64 0, .int .i64 0, .int .i64 0, .int .i64 0] 109)).alloc (by simp; omega) (.cells #[.int .i64 0, .int .i64 0, .int .i64 0, .int .i64 0, .int .i64 0, .int .i64 0] 109))
  go_enter Try.func90, Try.ntmps90
  go_wp2_with fail
  refine (toPoint_any _ _ _).mono ?_
  rintro r w1 ⟨rfl, hb1⟩
  have t1 := t0.out.below hb1
  have B1 := Lib.hid (below_more B0.out hb1 (Nat.le_refl _))
  clear t0 B0 hb1
  have ca := t1.1.cell
  have cr := t1.2.1.cell
  have co := t1.2.2.cell
  have fr := t1.2.1.frozen
  have fo := t1.2.2.frozen
  have T1 := Lib.hid t1
  clear t1
  go_wp2_with fail
  refine (toPoint_any _ _ _).mono ?_
  rintro r w2 ⟨rfl, hb2⟩
  clear ca cr co fr fo
  have t2 := ((T1.out.set_ 0 (.int .i64 a)).set_ 1 (.int .i64 b)).below hb2
  have B2 := Lib.hid (below_more (below_set2 B1.out (Nat.le_add_right w.heap.size (1 + 1)) 0 1 (.int .i64 a) (.int .i64 b)) hb2 (Nat.le_refl _))
  clear T1 B1 hb2
  simp only [List.setIfInBounds_toArray, List.set_cons_zero, List.set_cons_succ] at t2
  have ca := t2.1.cell
  have cr := t2.2.1.cell
  have co := t2.2.2.cell
  have fr := t2.2.1.frozen
  have fo := t2.2.2.frozen
  have T2 := Lib.hid t2
  clear t2
  go_wp2_with fail
  refine (toPoint_any _ _ _).mono ?_
  rintro r w3 ⟨rfl, hb3⟩
  clear ca cr co fr fo
  have t3 := ((T2.out.set_ 2 (.int .i64 c)).set_ 3 (.int .i64 d)).below hb3
  have B3 := Lib.hid (below_more (below_set2 B2.out (Nat.le_add_right w.heap.size (1 + 1)) 2 3 (.int .i64 c) (.int .i64 d)) hb3 (Nat.le_refl _))
  clear T2 B2 hb3
  simp only [List.setIfInBounds_toArray, List.set_cons_zero, List.set_cons_succ] at t3
  have ca := t3.1.cell
  have cr := t3.2.1.cell
  have co := t3.2.2.cell
  have fr := t3.2.1.frozen
  have fo := t3.2.2.frozen
  clear t3
  go_wp2_with fail
  refine bodyPost_ret (v := arcV a b c d e f) (by simp [results, Try.results90, go_sem, cr]) rfl ⟨rfl, ?_⟩
  have B4 := below_set2 B3.out (Nat.le_add_right w.heap.size (1 + 1)) 4 5 (.int .i64 e) (.int .i64 f)
  have B5 := below_set2 (below_set2 (below_set2 B4 (Nat.le_add_right w.heap.size 1) 0 1 (.int .i64 a) (.int .i64 b)) (Nat.le_add_right w.heap.size 1) 2 3 (.int .i64 c) (.int .i64 d)) (Nat.le_add_right w.heap.size 1) 4 5 (.int .i64 e) (.int .i64 f)
  exact B5
/-- whether an arc is one -/
def arcB (a b c d e f : Int) : Bool := ptB a b && (ptB c d && (ptB e f && (!(c == e && d == f) && (sqL a b c d == sqL a b e f))))
theorem pvalid_is {x y : Int} {b : Bool} (h : ptB x y = b) (w : World) :
    Calls Try.prog 127 #[ptV x y] w fun e w' => e = .returned (.bool b) ∧ Below w.heap.size w w' := by
  rw [← h]; exact pvalid_any x y w
theorem l05Point_is {x y : Int} {b : Bool} (h : ptB x y = b) (w : World) :
    Calls Try.prog 134 #[ptV x y] w fun e w' => e = .returned (.bool b) ∧ Below w.heap.size w w' := by
  rw [← h]; exact l05Point_any x y w
theorem arcB_1 {a b c d e f : Int} (h1 : ptB a b = false) : arcB a b c d e f = false := by simp [arcB, h1]
theorem arcB_2 {a b c d e f : Int} (h1 : ptB c d = false) : arcB a b c d e f = false := by simp [arcB, h1]
theorem arcB_3 {a b c d e f : Int} (h1 : ptB e f = false) : arcB a b c d e f = false := by simp [arcB, h1]
theorem arcB_4 {a b c d e f : Int} (h1 : c = e ∧ d = f) : arcB a b c d e f = false := by simp [arcB, h1]
theorem arcB_5 {a b c d e f : Int} (h1 : ptB a b = true) (h2 : ptB c d = true) (h3 : ptB e f = true) (h4 : ¬ (c = e ∧ d = f)) : arcB a b c d e f = (sqL a b c d == sqL a b e f) := by
  have : (c == e && d == f) = false := by
    rw [Bool.eq_false_iff]; simpa using h4
  simp [arcB, h1, h2, h3, this]
set_option maxHeartbeats 1000000 in
theorem ValidArc_i (a b c d e f : Int) (w : World) :
    Calls Try.prog 91 #[arcV a b c d e f] w fun r w' => r = .returned (.bool (arcB a b c d e f)) ∧ Below w.heap.size w w' := by
  have hk := Blk.new w 109 #[.int .i64 a, .int .i64 b, .int .i64 c, .int .i64 d, .int .i64 e, .int .i64 f]
  have hb0 := Lib.hid ((Below.refl w.heap.size w).alloc (Nat.le_refl _) (.cells #[.int .i64 a, .int .i64 b, .int .i64 c, .int .i64 d, .int .i64 e, .int .i64 f] 109))
  obtain ⟨W, hW⟩ : ∃ W, W = w.alloc (.cells #[.int .i64 a, .int .i64 b, .int .i64 c, .int .i64 d, .int .i64 e, .int .i64 f] 109) := ⟨_, rfl⟩
  rw [← hW] at hk hb0
  have hc := bel_cell hk hk.lt
  have HW := Lib.hid hW
  clear hW
  cases h1 : ptB a b
  · rw [arcB_1 h1]
    go_enter Try.func91, Try.ntmps91
    go_wp2_with fail
    rw [← HW.out]
    refine wp_region_bel W.heap.size W (Below.refl _ _) (by kernel_rfl) (by kernel_rfl) ?_
    repeat (go_big_quiet_step ((first | (go_at_call 127; exact bel_of (Nat.le_refl _) (pvalid_is (by assumption) _)))))
    refine wpQuiet_nil ?_
    rintro _ ⟨⟨w1, hb1⟩, rfl⟩
    go_wp2
    go_ret
    exact ⟨rfl, below_more hb0.out hb1 (Nat.le_refl _)⟩
  cases h2 : ptB c d
  · rw [arcB_2 h2]
    go_enter Try.func91, Try.ntmps91
    go_wp2_with fail
    rw [← HW.out]
    refine wp_region_bel W.heap.size W (Below.refl _ _) (by kernel_rfl) (by kernel_rfl) ?_
    repeat (go_big_quiet_step ((first | (go_at_call 127; exact bel_of (Nat.le_refl _) (pvalid_is (by assumption) _)))))
    refine wpQuiet_nil ?_
    rintro _ ⟨⟨w1, hb1⟩, rfl⟩
    go_wp2
    go_ret
    exact ⟨rfl, below_more hb0.out hb1 (Nat.le_refl _)⟩
  cases h3 : ptB e f
  · rw [arcB_3 h3]
    go_enter Try.func91, Try.ntmps91
    go_wp2_with fail
    rw [← HW.out]
    refine wp_region_bel W.heap.size W (Below.refl _ _) (by kernel_rfl) (by kernel_rfl) ?_
    repeat (go_big_quiet_step ((first | (go_at_call 127; exact bel_of (Nat.le_refl _) (pvalid_is (by assumption) _)))))
    refine wpQuiet_nil ?_
    rintro _ ⟨⟨w1, hb1⟩, rfl⟩
    go_wp2
    go_ret
    exact ⟨rfl, below_more hb0.out hb1 (Nat.le_refl _)⟩
  by_cases h4 : c = e ∧ d = f
  · rw [arcB_4 h4]
    obtain ⟨rfl, rfl⟩ := h4
    go_enter Try.func91, Try.ntmps91
    go_wp2_with fail
    rw [← HW.out]
    refine wp_region_bel W.heap.size W (Below.refl _ _) (by kernel_rfl) (by kernel_rfl) ?_
    repeat (go_big_quiet_step ((first | (go_at_call 127; exact bel_of (Nat.le_refl _) (pvalid_is (by assumption) _)))))
    refine wpQuiet_nil ?_
    rintro _ ⟨⟨w1, hb1⟩, rfl⟩
    go_wp2
    go_ret
    exact ⟨rfl, below_more hb0.out hb1 (Nat.le_refl _)⟩
  · rw [arcB_5 h1 h2 h3 h4]
    by_cases h5 : c = e
    · subst h5
      have h6 : (d == f) = false := by rw [Bool.eq_false_iff]; simpa using h4
      clear h4
      go_enter Try.func91, Try.ntmps91
      go_wp2_with fail
      rw [← HW.out]
      refine wp_region_bel W.heap.size W (Below.refl _ _) (by kernel_rfl) (by kernel_rfl) ?_
      repeat (go_big_quiet_step ((first | (go_at_call 127; exact bel_of (Nat.le_refl _) (pvalid_is (by assumption) _)) | (go_at_call 128; exact bel_of (Nat.le_refl _) (squared_any _ _ _ _ _ (by assumption) (by assumption))))))
      refine wpQuiet_nil ?_
      rintro _ ⟨⟨w1, hb1⟩, rfl⟩
      go_wp2
      go_ret
      exact ⟨rfl, below_more hb0.out hb1 (Nat.le_refl _)⟩
    · have h6 : (c == e) = false := by rw [Bool.eq_false_iff]; simpa using h5
      clear h4 h5
      go_enter Try.func91, Try.ntmps91
      go_wp2_with fail
      rw [← HW.out]
      refine wp_region_bel W.heap.size W (Below.refl _ _) (by kernel_rfl) (by kernel_rfl) ?_
      repeat (go_big_quiet_step ((first | (go_at_call 127; exact bel_of (Nat.le_refl _) (pvalid_is (by assumption) _)) | (go_at_call 128; exact bel_of (Nat.le_refl _) (squared_any _ _ _ _ _ (by assumption) (by assumption))))))
      refine wpQuiet_nil ?_
      rintro _ ⟨⟨w1, hb1⟩, rfl⟩
      go_wp2
      go_ret
      exact ⟨rfl, below_more hb0.out hb1 (Nat.le_refl _)⟩
abbrev arcC (a b c d e f : Int) : Array Value := #[.int .i64 a, .int .i64 b, .int .i64 c, .int .i64 d, .int .i64 e, .int .i64 f]
set_option maxHeartbeats 1000000 in
theorem l05One_any (a b c d e f : Int) (N : Nat) (w : World) (hk : Blk w N 109 #[.int .i64 a, .int .i64 b, .int .i64 c, .int .i64 d, .int .i64 e, .int .i64 f]) :
    Calls Try.prog 125 #[.pointer (some ⟨N, 0, none⟩)] w fun r w' => r = .returned (.bool (arcB a b c d e f)) ∧ Below w.heap.size w w' := by
  have hc := bel_cell hk hk.lt
  cases h1 : ptB a b
  · rw [arcB_1 h1]
    go_enter Try.func125, Try.ntmps125
    go_wp2_with fail
    (refine wp_region_bel w.heap.size w (Below.refl _ _) (by kernel_rfl) (by kernel_rfl) ?_; (repeat (go_big_quiet_step ((first | (go_at_call 134; exact bel_of (Nat.le_refl _) (l05Point_is (by assumption) _)))))); refine wpQuiet_nil ?_; rintro w1 ⟨⟨_, hb1⟩, rfl⟩)
    go_wp2
    go_ret
    exact ⟨rfl, hb1⟩
  cases h2 : ptB c d
  · rw [arcB_2 h2]
    go_enter Try.func125, Try.ntmps125
    go_wp2_with fail
    (refine wp_region_bel w.heap.size w (Below.refl _ _) (by kernel_rfl) (by kernel_rfl) ?_; (repeat (go_big_quiet_step ((first | (go_at_call 134; exact bel_of (Nat.le_refl _) (l05Point_is (by assumption) _)))))); refine wpQuiet_nil ?_; rintro w1 ⟨⟨_, hb1⟩, rfl⟩)
    go_wp2
    go_ret
    exact ⟨rfl, hb1⟩
  cases h3 : ptB e f
  · rw [arcB_3 h3]
    go_enter Try.func125, Try.ntmps125
    go_wp2_with fail
    (refine wp_region_bel w.heap.size w (Below.refl _ _) (by kernel_rfl) (by kernel_rfl) ?_; (repeat (go_big_quiet_step ((first | (go_at_call 134; exact bel_of (Nat.le_refl _) (l05Point_is (by assumption) _)))))); refine wpQuiet_nil ?_; rintro w1 ⟨⟨_, hb1⟩, rfl⟩)
    go_wp2
    go_ret
    exact ⟨rfl, hb1⟩
  by_cases h4 : c = e ∧ d = f
  · rw [arcB_4 h4]
    obtain ⟨rfl, rfl⟩ := h4
    go_enter Try.func125, Try.ntmps125
    go_wp2_with fail
    (refine wp_region_bel w.heap.size w (Below.refl _ _) (by kernel_rfl) (by kernel_rfl) ?_; (repeat (go_big_quiet_step ((first | (go_at_call 134; exact bel_of (Nat.le_refl _) (l05Point_is (by assumption) _)))))); refine wpQuiet_nil ?_; rintro w1 ⟨⟨_, hb1⟩, rfl⟩)
    go_wp2
    go_ret
    exact ⟨rfl, hb1⟩
  · rw [arcB_5 h1 h2 h3 h4]
    by_cases h5 : c = e
    · subst h5
      have h6 : (d == f) = false := by rw [Bool.eq_false_iff]; simpa using h4
      clear h4
      go_enter Try.func125, Try.ntmps125
      go_wp2_with fail
      (refine wp_region_bel w.heap.size w (Below.refl _ _) (by kernel_rfl) (by kernel_rfl) ?_; (repeat (go_big_quiet_step ((first | (go_at_call 134; exact bel_of (Nat.le_refl _) (l05Point_is (by assumption) _)))))); refine wpQuiet_nil ?_; rintro w1 ⟨⟨_, hb1⟩, rfl⟩)
      have hk1 := hk.below hb1 hk.lt
      have hc1 := bel_cell hk1 hk1.lt
      clear hc
      go_wp2_with fail
      (refine wp_region_bel w1.heap.size w1 (Below.refl _ _) (by kernel_rfl) (by kernel_rfl) ?_; (repeat (go_big_quiet_step ((first | (go_at_call 135; exact bel_of (Nat.le_refl _) (l05Square_any _ _ _ _ _ (by assumption) (by assumption))))))); refine wpQuiet_nil ?_; rintro w2 ⟨⟨_, hb2⟩, rfl⟩)
      go_wp2
      go_ret
      exact ⟨rfl, below_more' hb1 hb2⟩
    · have h6 : (c == e) = false := by rw [Bool.eq_false_iff]; simpa using h5
      clear h4 h5
      go_enter Try.func125, Try.ntmps125
      go_wp2_with fail
      (refine wp_region_bel w.heap.size w (Below.refl _ _) (by kernel_rfl) (by kernel_rfl) ?_; (repeat (go_big_quiet_step ((first | (go_at_call 134; exact bel_of (Nat.le_refl _) (l05Point_is (by assumption) _)))))); refine wpQuiet_nil ?_; rintro w1 ⟨⟨_, hb1⟩, rfl⟩)
      have hk1 := hk.below hb1 hk.lt
      have hc1 := bel_cell hk1 hk1.lt
      clear hc
      go_wp2_with fail
      (refine wp_region_bel w1.heap.size w1 (Below.refl _ _) (by kernel_rfl) (by kernel_rfl) ?_; (repeat (go_big_quiet_step ((first | (go_at_call 135; exact bel_of (Nat.le_refl _) (l05Square_any _ _ _ _ _ (by assumption) (by assumption))))))); refine wpQuiet_nil ?_; rintro w2 ⟨⟨_, hb2⟩, rfl⟩)
      go_wp2
      go_ret
      exact ⟨rfl, below_more' hb1 hb2⟩
theorem l05One_is {a b c d e f : Int} {N : Nat} {r : Bool} (h : arcB a b c d e f = r) (w : World) (hk : Blk w N 109 #[.int .i64 a, .int .i64 b, .int .i64 c, .int .i64 d, .int .i64 e, .int .i64 f]) :
    Calls Try.prog 125 #[.pointer (some ⟨N, 0, none⟩)] w fun e w' => e = .returned (.bool r) ∧ Below w.heap.size w w' := by
  rw [← h]; exact l05One_any _ _ _ _ _ _ N w hk
theorem arcB_pt {a b c d e f : Int} (h : arcB a b c d e f = true) : ptB a b = true ∧ ptB c d = true ∧ ptB e f = true := by
  simp only [arcB, Bool.and_eq_true] at h
  exact ⟨h.1, h.2.1, h.2.2.1⟩
def rsL (a b c d e f : Int) : Int × Int := if arcB a b c d e f = true then (sqL a b c d, 0) else (0, 1)
theorem ValidArc_is {a b c d e f : Int} {r : Bool} (h : arcB a b c d e f = r) (w : World) :
    Calls Try.prog 91 #[arcV a b c d e f] w fun e w' => e = .returned (.bool r) ∧ Below w.heap.size w w' := by
  rw [← h]; exact ValidArc_i _ _ _ _ _ _ w
def smL (a b e f a' b' : Int) : Bool := (a - e) * (b' - f) == (b - f) * (a' - e)
def sjB (a b c d e f a' b' c' d' e' f' : Int) : Bool := arcB a b c d e f && (arcB a' b' c' d' e' f' && ((c' == e && d' == f) && smL a b e f a' b'))
theorem sjB_1 {a b c d e f a' b' c' d' e' f' : Int} (h : arcB a b c d e f = false) : sjB a b c d e f a' b' c' d' e' f' = false := by simp [sjB, h]
theorem sjB_2 {a b c d e f a' b' c' d' e' f' : Int} (h : arcB a' b' c' d' e' f' = false) : sjB a b c d e f a' b' c' d' e' f' = false := by simp [sjB, h]
theorem sjB_3 {a b c d e f a' b' c' d' e' f' : Int} (h : (c' == e) = false) : sjB a b c d e f a' b' c' d' e' f' = false := by simp [sjB, h]
theorem sjB_4 {a b c d e f a' b' c' d' e' f' : Int} (h : (d' == f) = false) : sjB a b c d e f a' b' c' d' e' f' = false := by simp [sjB, h]
theorem sjB_5 {a b c d e f a' b' e' f' : Int} (h : arcB a b c d e f = true) (g : arcB a' b' e f e' f' = true) : sjB a b c d e f a' b' e f e' f' = smL a b e f a' b' := by simp [sjB, h, g]
theorem beq_no {a b : Int} (h : a ≠ b) : (a == b) = false := by rw [Bool.eq_false_iff]; simpa using h
def Two (w : World) (N : Nat) (xs ys : Array Value) : Prop := Blk w N 109 xs ∧ Blk w (N + 1) 109 ys
theorem two_new (w : World) (xs ys : Array Value) : Two ((w.alloc (.cells xs 109)).alloc (.cells ys 109)) w.heap.size xs ys := by
  refine ⟨(Blk.new w _ xs).alloc _, ?_⟩
  have := Blk.new (w.alloc (.cells xs 109)) 109 ys
  simpa using this
theorem Two.below {w w' : World} {N : Nat} {xs ys : Array Value} (h : Two w N xs ys) (hb : Below w.heap.size w w') : Two w' N xs ys :=
  ⟨h.1.below hb h.1.lt, h.2.below hb h.2.lt⟩
theorem two_below (w : World) (o1 o2 : Obj) : Below w.heap.size w ((w.alloc o1).alloc o2) := ((Below.refl _ _).alloc (Nat.le_refl _) _).alloc (by simp) _
end Go.Proofs.Ytbgbhhaheogjcaa
