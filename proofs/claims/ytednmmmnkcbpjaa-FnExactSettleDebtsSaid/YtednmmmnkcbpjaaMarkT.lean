/- The law's mark texts. -/
import Derived.Test.YtednmmmnkcbpjaaDebtS
import Derived.Laws.BytesArg
set_option linter.unusedVariables false
set_option linter.unusedSimpArgs false
namespace Go.Proofs.Ytednmmmnkcbpjaa
open Go.RowKit

def digB (k : Nat) : ByteArray := Go.strOfNums [48 + (k : Int) % 10]
theorem digB_size (k : Nat) : (digB k).size = 1 := rfl
def mtTo (k : Nat) (out : ByteArray) : ByteArray := if h : k = 0 then out else mtTo (k / 10) (digB k ++ out)
termination_by k
decreasing_by omega
def mtL (k : Nat) : ByteArray := ⟨#[109]⟩ ++ mtTo k ByteArray.empty
set_option maxHeartbeats 1000000 in
theorem markText_any (k : Nat) (w : World) (k0 : 0 < k) (k1 : k ≤ 1000000000) :
    Calls Try.prog 48 #[.int .i64 k] w fun e w' => e = .returned (.string (mtL k)) ∧ Below w.heap.size w w' := by
  have W0 := Lib.hid (Below.refl w.heap.size w)
  go_enter Try.func48, Try.ntmps48
  go_wp2
  go_loopw [0, 3] (fun i s wr => ∃ (j : Nat) (out : ByteArray), i = .int .i64 j ∧ s = .string out ∧ out.size + j ≤ k ∧ Hid (mtTo j out = mtTo k ByteArray.empty) ∧ Hid (Below w.heap.size w wr)) (fun i _ _ => (intOf i).toNat)
  case atStart => exact ⟨k, ByteArray.empty, rfl, rfl, by simp, Lib.hid rfl, W0⟩
  case round =>
    obtain ⟨j, out, rfl, rfl, hs, E, hb⟩ := hrel
    by_cases hlt : 0 < j
    · have b1 := Lib.hid (hb.out.alloc hb.out.size (.cells #[.int .u8 (48 + (j : Int) % 10)] 5))
      have hcv : (convert 22 9 (.slice (some ⟨wr.heap.size, 0, none⟩) 1 1)).run Try.prog (wr.alloc (.cells #[.int .u8 (48 + (j : Int) % 10)] 5)) = .ok (.string (digB j)) (wr.alloc (.cells #[.int .u8 (48 + (j : Int) % 10)] 5)) :=
        Go.run_convert_bytes_arg _ _ _ Try.underlying22 Try.underlying5 _ _ 1 _ [48 + (j : Int) % 10] rfl (fun i hi => by
          obtain rfl : i = 0 := by omega
          exact (Blk.new wr 5 #[.int .u8 (48 + (j : Int) % 10)]).cell 0) _ Try.underlying9
      have E1 : Hid (mtTo (j / 10) (digB j ++ out) = mtTo k ByteArray.empty) := Lib.hid (by have h := E.out; rw [mtTo, dif_neg (by omega)] at h; exact h)
      have sz : (digB j ++ out).size = 1 + out.size := by rw [ByteArray.size_append, digB_size]
      have sz2 := digB_size j
      go_wp2
      go_roundw
      case rel => exact ⟨j / 10, digB j ++ out, by go_num, rfl, by omega, E1, b1⟩
      case measure => simp [intOf]; omega
    · obtain rfl : j = 0 := by omega
      have E1 : Hid (out = mtTo k ByteArray.empty) := Lib.hid (by have h := E.out; rw [mtTo] at h; simpa using h)
      go_wp2
      go_ret
      exact ⟨by rw [E1.out]; rfl, hb.out⟩
end Go.Proofs.Ytednmmmnkcbpjaa
