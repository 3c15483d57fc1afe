/- The laws of ValidArc, RadiusSquared, IsSmoothJoint. -/
import Derived.Test.YtbkmfhdagnlgiaaArcs
import Derived.Test.YtbkmfhdagnlgiaaOpen
set_option linter.unusedVariables false
namespace Go.Proofs.Ytbkmfhdagnlgiaa
open Go.RowKit

set_option maxHeartbeats 1000000 in
theorem FnExactValidArc_walk (v0 : Value) (w : World) (i0 : IsArc w v0) :
    Calls Try.prog 7 #[v0] w fun e w' => e = .returned (.bool true) ∧ Below w.heap.size w w' := by
  obtain ⟨a, b, c, d, e, f, rfl⟩ := i0
  have hk := Lib.hid (Blk.new w 31 #[.int .i64 a, .int .i64 b, .int .i64 c, .int .i64 d, .int .i64 e, .int .i64 f])
  have hb0 := Lib.hid ((Below.refl w.heap.size w).alloc (Nat.le_refl _) (.cells #[.int .i64 a, .int .i64 b, .int .i64 c, .int .i64 d, .int .i64 e, .int .i64 f] 31))
  go_enter Try.func7, Try.ntmps7
  go_wp2_with fail
  refine (toArc_any _ _ _ _ _ _ _).mono ?_
  rintro r w1 ⟨rfl, hb1⟩
  have k1 := Lib.hid (hk.out.below hb1 hk.out.lt)
  have b1 := Lib.hid (below_more hb0.out hb1 (Nat.le_refl _))
  clear hk hb0 hb1
  go_wp2_with fail
  refine (ValidArc_s _ _ _ _ _ _ _).mono ?_
  rintro r w2 ⟨rfl, hb2⟩
  have k2 := Lib.hid (k1.out.below hb2 k1.out.lt)
  have b2 := Lib.hid (below_more b1.out hb2 (Nat.le_refl _))
  clear k1 b1 hb2
  have hc := k2.out.cell
  go_wp2_with fail
  refine (toArc_any _ _ _ _ _ _ _).mono ?_
  rintro r w3 ⟨rfl, hb3⟩
  have b3 := Lib.hid (below_more b2.out hb3 (Nat.le_refl _))
  clear hc k2 b2 hb3
  go_wp2_with fail
  refine (ValidArc_i _ _ _ _ _ _ _).mono ?_
  rintro r w4 ⟨rfl, hb4⟩
  have b4 := Lib.hid (below_more b3.out hb4 (Nat.le_refl _))
  clear b3 hb4
  go_wp2
  go_ret
  exact ⟨rfl, b4.out⟩
set_option maxHeartbeats 1000000 in
theorem FnExactRadiusSquared_walk (v0 : Value) (w : World) (i0 : IsArc w v0) :
    Calls Try.prog 9 #[v0] w fun e w' => e = .returned (.bool true) ∧ Below w.heap.size w w' := by
  obtain ⟨a, b, c, d, e, f, rfl⟩ := i0
  have hk := Lib.hid (Blk.new w 31 #[.int .i64 a, .int .i64 b, .int .i64 c, .int .i64 d, .int .i64 e, .int .i64 f])
  have hb0 := Lib.hid ((Below.refl w.heap.size w).alloc (Nat.le_refl _) (.cells #[.int .i64 a, .int .i64 b, .int .i64 c, .int .i64 d, .int .i64 e, .int .i64 f] 31))
  go_enter Try.func9, Try.ntmps9
  go_wp2_with fail
  refine (toArc_any _ _ _ _ _ _ _).mono ?_
  rintro r w1 ⟨rfl, hb1⟩
  have k1 := Lib.hid (hk.out.below hb1 hk.out.lt)
  have b1 := Lib.hid (below_more hb0.out hb1 (Nat.le_refl _))
  clear hk hb0 hb1
  go_wp2_with fail
  refine (RadiusSquared_s _ _ _ _ _ _ _).mono ?_
  rintro r w2 ⟨rfl, hb2⟩
  have k2 := Lib.hid (k1.out.below hb2 k1.out.lt)
  have b2 := Lib.hid (below_more b1.out hb2 (Nat.le_refl _))
  clear k1 b1 hb2
  have hc := k2.out.cell
  go_wp2_with fail
  refine (toArc_any _ _ _ _ _ _ _).mono ?_
  rintro r w3 ⟨rfl, hb3⟩
  have b3 := Lib.hid (below_more b2.out hb3 (Nat.le_refl _))
  clear hc k2 b2 hb3
  go_wp2_with fail
  refine (RadiusSquared_i _ _ _ _ _ _ _).mono ?_
  rintro r w4 ⟨rfl, hb4⟩
  have b4 := Lib.hid (below_more b3.out hb4 (Nat.le_refl _))
  clear b3 hb4
  go_wp2
  go_ret
  exact ⟨rfl, b4.out⟩
def TwoL (w : World) (N : Nat) (xs ys : Array Value) : Prop := Blk w N 31 xs ∧ Blk w (N + 1) 31 ys
theorem twoL_new (w : World) (xs ys : Array Value) : TwoL ((w.alloc (.cells xs 31)).alloc (.cells ys 31)) w.heap.size xs ys := by
  refine ⟨(Blk.new w _ xs).alloc _, ?_⟩
  have := Blk.new (w.alloc (.cells xs 31)) 31 ys
  simpa using this
set_option maxHeartbeats 1000000 in
theorem FnExactIsSmoothJoint_walk (v0 v1 : Value) (w : World) (i0 : IsArc w v0) (i1 : IsArc w v1) :
    Calls Try.prog 10 #[v0, v1] w fun e w' => e = .returned (.bool true) ∧ Below w.heap.size w w' := by
  obtain ⟨a, b, c, d, e, f, rfl⟩ := i0
  obtain ⟨a', b', c', d', e', f', rfl⟩ := i1
  have t1 := Lib.hid (twoL_new w #[.int .i64 a, .int .i64 b, .int .i64 c, .int .i64 d, .int .i64 e, .int .i64 f] #[.int .i64 a', .int .i64 b', .int .i64 c', .int .i64 d', .int .i64 e', .int .i64 f'])
  have hb0 := Lib.hid (two_below w (.cells #[.int .i64 a, .int .i64 b, .int .i64 c, .int .i64 d, .int .i64 e, .int .i64 f] 31) (.cells #[.int .i64 a', .int .i64 b', .int .i64 c', .int .i64 d', .int .i64 e', .int .i64 f'] 31))
  go_enter Try.func10, Try.ntmps10
  go_wp2_with fail
  generalize (w.alloc (.cells #[.int .i64 a, .int .i64 b, .int .i64 c, .int .i64 d, .int .i64 e, .int .i64 f] 31)).alloc (.cells #[.int .i64 a', .int .i64 b', .int .i64 c', .int .i64 d', .int .i64 e', .int .i64 f'] 31) = W at t1 hb0 ⊢
  have c1 := bel_cell t1.out.1 t1.out.1.lt
  have c2 := bel_cell t1.out.2 t1.out.2.lt
  (refine wp_region_bel W.heap.size W (Below.refl _ _) (by kernel_rfl) (by kernel_rfl) ?_; (repeat (go_big_quiet_step ((first | (go_at_call 24; exact bel_of (Nat.le_refl _) (toArc_any _ _ _ _ _ _ _)) | (go_at_call 30; exact bel_of (Nat.le_refl _) (IsSmoothJoint_s _ _ _ _ _ _ _ _ _ _ _ _ _)))))); refine wpQuiet_nil ?_; rintro w1 ⟨⟨_, hb1⟩, rfl⟩)
  have k1 := Lib.hid (t1.out.1.below hb1 t1.out.1.lt)
  have k2 := Lib.hid (t1.out.2.below hb1 t1.out.2.lt)
  have b1 := Lib.hid (below_more hb0.out hb1 (Nat.le_refl _))
  clear c1 c2 hb0 t1 hb1
  have c1 := bel_cell k1.out k1.out.lt
  have c2 := bel_cell k2.out k2.out.lt
  go_wp2_with fail
  (refine wp_region_bel w1.heap.size w1 (Below.refl _ _) (by kernel_rfl) (by kernel_rfl) ?_; (repeat (go_big_quiet_step ((first | (go_at_call 24; exact bel_of (Nat.le_refl _) (toArc_any _ _ _ _ _ _ _)) | (go_at_call 31; exact bel_of (Nat.le_refl _) (IsSmoothJoint_i _ _ _ _ _ _ _ _ _ _ _ _ _)))))); refine wpQuiet_nil ?_; rintro w2 ⟨⟨_, hb2⟩, rfl⟩)
  have b2 := Lib.hid (below_more b1.out hb2 (Nat.le_refl _))
  clear c1 c2 k1 k2 b1 hb2
  go_wp2
  go_ret
  exact ⟨rfl, b2.out⟩
end Go.Proofs.Ytbkmfhdagnlgiaa
