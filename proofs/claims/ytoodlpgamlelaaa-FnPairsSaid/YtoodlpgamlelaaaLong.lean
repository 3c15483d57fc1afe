/- r8Long. -/
import Derived.Test.YtoodlpgamlelaaaBytes
set_option linter.unusedVariables false
namespace Go.Proofs.Ytoodlpgamlelaaa
open Go.RowKit

theorem r8Long_any (A A' : Option Addr) (c c' n n' : Nat) (w : World) (h : n ≤ maxLen) (h' : n' ≤ maxLen) :
    Calls Try.prog 5 #[.slice A n c, .slice A' n' c'] w fun e w' => e = .returned (.bool (decide (1048576 < (n : Int)) || decide (1048576 < (n' : Int)))) ∧ w = w' := by
  unfold maxLen at h h'
  rcases Nat.lt_or_ge 1048576 n with a | a
  · go_enter Try.func5, Try.ntmps5
    go_wp2
    go_ret
    exact ⟨ret_bool (by simp; try omega), rfl⟩
  · rcases Nat.lt_or_ge 1048576 n' with b | b
    · go_enter Try.func5, Try.ntmps5
      go_wp2
      go_ret
      exact ⟨ret_bool (by simp; try omega), rfl⟩
    · go_enter Try.func5, Try.ntmps5
      go_wp2
      go_ret
      exact ⟨ret_bool (by simp; try omega), rfl⟩
end Go.Proofs.Ytoodlpgamlelaaa
