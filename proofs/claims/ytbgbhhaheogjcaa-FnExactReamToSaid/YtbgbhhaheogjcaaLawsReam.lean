/- The law of ReamTo. -/
import Derived.Test.YtbgbhhaheogjcaaReam
import Derived.Test.YtbgbhhaheogjcaaOpen
set_option linter.unusedVariables false
namespace Go.Proofs.Ytbgbhhaheogjcaa
open Go.RowKit

set_option maxHeartbeats 2000000 in
theorem FnExactReamTo_walk (v0 v1 v2 : Value) (w : World) (i0 : IsI64 w v0) (i1 : IsPeg w v1) (i2 : IsI64 w v2) :
    Calls Try.prog 3 #[v0, v1, v2] w fun e w' => e = .returned (.bool true) ∧ Below w.heap.size w w' := by
  obtain ⟨b0, rfl, _⟩ := i0
  obtain ⟨s0, a1, a2, a3, rfl, z0, _, _, _⟩ := i1
  obtain ⟨b2, rfl, _⟩ := i2
  have hk := Lib.hid (Blk.new w 23 #[.string s0, .int .i64 a1, .int .i64 a2, .int .i64 a3])
  have hb0 := Lib.hid ((Below.refl w.heap.size w).alloc (Nat.le_refl _) (.cells #[.string s0, .int .i64 a1, .int .i64 a2, .int .i64 a3] 23))
  by_cases hs : (s0.size : Int) ≤ 1048576
  · go_enter Try.func3, Try.ntmps3
    go_wp2_with fail
    refine (szPeg_ok _ _ _ _ _ _ (by omega) (by omega) z0 hs).mono ?_
    rintro r w1 ⟨rfl, hb1⟩
    have k1 := Lib.hid (hk.out.below hb1 hk.out.lt)
    have b1 := Lib.hid (below_more hb0.out hb1 (Nat.le_refl _))
    clear hk hb0 hb1
    have hc := k1.out.cell
    go_wp2_with fail
    refine (toPeg_any _ _ _ _ _).mono ?_
    rintro r w2 ⟨rfl, hb2⟩
    have k2 := Lib.hid (k1.out.below hb2 k1.out.lt)
    have b2 := Lib.hid (below_more b1.out hb2 (Nat.le_refl _))
    clear k1 b1 hb2 hc
    have hc := k2.out.cell
    go_wp2_with fail
    refine (ReamTo_s _ _ _ _ _ _ _ z0).mono ?_
    rintro r w3 ⟨rfl, hb3⟩
    have k3 := Lib.hid (k2.out.below hb3 k2.out.lt)
    have b3 := Lib.hid (below_more b2.out hb3 (Nat.le_refl _))
    clear k2 b2 hb3 hc
    have hc := k3.out.cell
    go_wp2_with fail
    refine (toPeg_any _ _ _ _ _).mono ?_
    rintro r w4 ⟨rfl, hb4⟩
    have b4 := Lib.hid (below_more b3.out hb4 (Nat.le_refl _))
    clear k3 b3 hb4 hc
    go_wp2_with fail
    refine (ReamTo_i _ _ _ _ _ _ _ z0).mono ?_
    rintro r w5 ⟨rfl, hb5⟩
    have b5 := Lib.hid (below_more b4.out hb5 (Nat.le_refl _))
    clear b4 hb5
    go_wp2
    go_ret
    exact ⟨rfl, b5.out⟩
  · go_enter Try.func3, Try.ntmps3
    go_wp2_with fail
    refine (szPeg_no _ _ _ _ _ _ (by omega) (by omega) z0 (by omega)).mono ?_
    rintro r w1 ⟨rfl, hb1⟩
    go_wp2
    go_ret
    exact ⟨rfl, below_more hb0.out hb1 (Nat.le_refl _)⟩
end Go.Proofs.Ytbgbhhaheogjcaa
