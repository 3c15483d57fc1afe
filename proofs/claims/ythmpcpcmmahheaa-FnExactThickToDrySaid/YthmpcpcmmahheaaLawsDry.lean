/- The law of ThickToDry. -/
import Derived.Test.YthmpcpcmmahheaaDry
import Derived.Test.YthmpcpcmmahheaaOpen
set_option linter.unusedVariables false
namespace Go.Proofs.Ythmpcpcmmahheaa
open Go.RowKit

set_option maxHeartbeats 1000000 in
theorem FnExactThickToDry_walk (v0 v1 v2 v3 : Value) (w : World) (i0 : IsI64 w v0) (i1 : IsI64 w v1) (i2 : IsI64 w v2) (i3 : IsI64 w v3) :
    Calls Try.prog 7 #[v0, v1, v2, v3] w fun e w' => e = .returned (.bool true) ∧ Below w.heap.size w w' := by
  obtain ⟨m, rfl, _⟩ := i0
  obtain ⟨h, rfl, _⟩ := i1
  obtain ⟨g, rfl, _⟩ := i2
  obtain ⟨d, rfl, _⟩ := i3
  go_enter Try.func7, Try.ntmps7
  go_wp2_with fail
  refine (ThickToDry_s m h g d _).mono ?_
  rintro r w1 ⟨rfl, hb1⟩
  have b1 := Lib.hid hb1
  clear hb1
  go_wp2_with fail
  refine (ThickToDry_i m h g d _).mono ?_
  rintro r w2 ⟨rfl, hb2⟩
  have b2 := Lib.hid (below_more b1.out hb2 (Nat.le_refl _))
  clear hb2
  go_wp2
  go_ret
  exact ⟨rfl, b2.out⟩
end Go.Proofs.Ythmpcpcmmahheaa
