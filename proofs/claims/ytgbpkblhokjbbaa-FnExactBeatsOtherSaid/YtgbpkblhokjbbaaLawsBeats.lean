/- The law of BeatsOther. -/
import Derived.Test.YtgbpkblhokjbbaaBeats
import Derived.Test.YtgbpkblhokjbbaaOpen
set_option linter.unusedVariables false
namespace Go.Proofs.Ytgbpkblhokjbbaa
open Go.RowKit

set_option maxHeartbeats 2000000 in
theorem FnExactBeatsOther_walk (v0 v1 : Value) (w : World) (i0 : IsPolicy w v0) (i1 : IsPolicy w v1) :
    Calls Try.prog 3 #[v0, v1] w fun e w' => e = .returned (.bool true) ∧ Below w.heap.size w w' := by
  obtain ⟨s, a1, a2, a3, a4, rfl, z0, _, _, _, _⟩ := i0
  obtain ⟨t, b1, b2, b3, b4, rfl, z1, _, _, _, _⟩ := i1
  have t1 := Lib.hid (twoP_new 23 w #[.string s, .int .i64 a1, .int .i64 a2, .int .i64 a3, .int .i64 a4] #[.string t, .int .i64 b1, .int .i64 b2, .int .i64 b3, .int .i64 b4])
  have hb0 := Lib.hid (twoP_below w (.cells #[.string s, .int .i64 a1, .int .i64 a2, .int .i64 a3, .int .i64 a4] 23) (.cells #[.string t, .int .i64 b1, .int .i64 b2, .int .i64 b3, .int .i64 b4] 23))
  by_cases hs : (s.size : Int) ≤ 1048576
  · by_cases ht : (t.size : Int) ≤ 1048576 - (s.size : Int)
    · go_enter Try.func3, Try.ntmps3
      go_wp2_with fail
      refine (szPolicy_ok _ _ _ _ _ _ _ (by omega) (by omega) z0 hs).mono ?_
      rintro r w1 ⟨rfl, hb1⟩
      have t2 := Lib.hid (t1.out.below hb1)
      have b1' := Lib.hid (below_more hb0.out hb1 (Nat.le_refl _))
      clear t1 hb0 hb1
      have c1 := t2.out.1.cell
      have c2 := t2.out.2.cell
      go_wp2_with fail
      refine (szPolicy_ok _ _ _ _ _ _ _ (by omega) (by omega) z1 ht).mono ?_
      rintro r w2 ⟨rfl, hb2⟩
      have t3 := Lib.hid (t2.out.below hb2)
      have b2' := Lib.hid (below_more b1'.out hb2 (Nat.le_refl _))
      clear t2 b1' hb2 c1 c2
      have c1 := bel_cell t3.out.1 t3.out.1.lt
      have c2 := bel_cell t3.out.2 t3.out.2.lt
      go_wp2_with fail
      (refine wp_region_bel w2.heap.size w2 (Below.refl _ _) (by kernel_rfl) (by kernel_rfl) ?_; (repeat (go_big_quiet_step ((first | (go_at_call 17; exact bel_of (Nat.le_refl _) (toPolicy_any _ _ _ _ _ _)) | (go_at_call 16; exact bel_of (Nat.le_refl _) (BeatsOther_s _ _ _ _ _ _ _ _ _ _ _ z0 z1)))))); refine wpQuiet_nil ?_; rintro w3 ⟨⟨_, hb3⟩, rfl⟩)
      have t4 := Lib.hid (t3.out.below hb3)
      have b3' := Lib.hid (below_more b2'.out hb3 (Nat.le_refl _))
      clear t3 b2' hb3 c1 c2
      have c1 := bel_cell t4.out.1 t4.out.1.lt
      have c2 := bel_cell t4.out.2 t4.out.2.lt
      go_wp2_with fail
      (refine wp_region_bel w3.heap.size w3 (Below.refl _ _) (by kernel_rfl) (by kernel_rfl) ?_; (repeat (go_big_quiet_step ((first | (go_at_call 17; exact bel_of (Nat.le_refl _) (toPolicy_any _ _ _ _ _ _)) | (go_at_call 18; exact bel_of (Nat.le_refl _) (BeatsOther_i _ _ _ _ _ _ _ _ _ _ _ z0 z1)))))); refine wpQuiet_nil ?_; rintro w4 ⟨⟨_, hb4⟩, rfl⟩)
      have b4' := Lib.hid (below_more b3'.out hb4 (Nat.le_refl _))
      clear t4 b3' hb4 c1 c2
      go_wp2
      go_ret
      exact ⟨rfl, b4'.out⟩
    · go_enter Try.func3, Try.ntmps3
      go_wp2_with fail
      refine (szPolicy_ok _ _ _ _ _ _ _ (by omega) (by omega) z0 hs).mono ?_
      rintro r w1 ⟨rfl, hb1⟩
      have t2 := Lib.hid (t1.out.below hb1)
      have b1' := Lib.hid (below_more hb0.out hb1 (Nat.le_refl _))
      clear t1 hb0 hb1
      have c1 := t2.out.1.cell
      have c2 := t2.out.2.cell
      go_wp2_with fail
      refine (szPolicy_no _ _ _ _ _ _ _ (by omega) (by omega) z1 (by omega)).mono ?_
      rintro r w2 ⟨rfl, hb2⟩
      have b2' := Lib.hid (below_more b1'.out hb2 (Nat.le_refl _))
      clear t2 b1' hb2 c1 c2
      go_wp2
      go_ret
      exact ⟨rfl, b2'.out⟩
  · go_enter Try.func3, Try.ntmps3
    go_wp2_with fail
    refine (szPolicy_no _ _ _ _ _ _ _ (by omega) (by omega) z0 (by omega)).mono ?_
    rintro r w1 ⟨rfl, hb1⟩
    go_wp2
    go_ret
    exact ⟨rfl, below_more hb0.out hb1 (Nat.le_refl _)⟩
end Go.Proofs.Ytgbpkblhokjbbaa
