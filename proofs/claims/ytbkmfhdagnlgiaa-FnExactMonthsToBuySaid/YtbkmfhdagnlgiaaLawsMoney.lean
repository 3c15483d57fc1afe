/- The laws of SellerGets, PriceToGet, MonthsToBuy. -/
import Derived.Test.YtbkmfhdagnlgiaaMoney
import Derived.Test.YtbkmfhdagnlgiaaOpen
namespace Go.Proofs.Ytbkmfhdagnlgiaa
open Go.RowKit

theorem FnExactSellerGets_walk (v0 v1 v2 : Value) (w : World) (i0 : IsI64 w v0) (i1 : IsI64 w v1) (i2 : IsI64 w v2) :
    Calls Try.prog 6 #[v0, v1, v2] w fun e w' => e = .returned (.bool true) ∧ Below w.heap.size w w' := by
  obtain ⟨a, rfl, _⟩ := i0
  obtain ⟨b, rfl, _⟩ := i1
  obtain ⟨c, rfl, _⟩ := i2
  go_enter Try.func6, Try.ntmps6
  go_wp2_with (first | (go_at_call 21; refine (SellerGets_s _ _ _ _).mono ?_; rintro e w' ⟨rfl, rfl⟩) | (go_at_call 22; refine (SellerGets_i _ _ _ _).mono ?_; rintro e w' ⟨rfl, rfl⟩))
  go_ret
  exact ⟨rfl, Below.refl _ _⟩
theorem FnExactPriceToGet_walk (v0 v1 v2 : Value) (w : World) (i0 : IsI64 w v0) (i1 : IsI64 w v1) (i2 : IsI64 w v2) :
    Calls Try.prog 11 #[v0, v1, v2] w fun e w' => e = .returned (.bool true) ∧ Below w.heap.size w w' := by
  obtain ⟨a, rfl, _⟩ := i0
  obtain ⟨b, rfl, _⟩ := i1
  obtain ⟨c, rfl, _⟩ := i2
  go_enter Try.func11, Try.ntmps11
  go_wp2_with (first | (go_at_call 32; refine (PriceToGet_s _ _ _ _).mono ?_; rintro e w' ⟨rfl, rfl⟩) | (go_at_call 33; refine (PriceToGet_i _ _ _ _).mono ?_; rintro e w' ⟨rfl, rfl⟩))
  go_ret
  exact ⟨rfl, Below.refl _ _⟩
theorem FnExactMonthsToBuy_walk (v0 v1 v2 : Value) (w : World) (i0 : IsI64 w v0) (i1 : IsI64 w v1) (i2 : IsI64 w v2) :
    Calls Try.prog 5 #[v0, v1, v2] w fun e w' => e = .returned (.bool true) ∧ Below w.heap.size w w' := by
  obtain ⟨a, rfl, _⟩ := i0
  obtain ⟨b, rfl, _⟩ := i1
  obtain ⟨c, rfl, _⟩ := i2
  go_enter Try.func5, Try.ntmps5
  go_wp2_with (first | (go_at_call 19; refine (MonthsToBuy_s _ _ _ _).mono ?_; rintro e w' ⟨rfl, rfl⟩) | (go_at_call 20; refine (MonthsToBuy_i _ _ _ _).mono ?_; rintro e w' ⟨rfl, rfl⟩))
  go_ret
  exact ⟨rfl, Below.refl _ _⟩
end Go.Proofs.Ytbkmfhdagnlgiaa
