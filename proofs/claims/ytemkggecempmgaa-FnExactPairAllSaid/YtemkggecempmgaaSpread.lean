/- Set-ups of strings: how far tensions lie apart. -/
import Derived.Test.YtemkggecempmgaaSetFns
import Derived.Test.YtemkggecempmgaaCopy
set_option linter.unusedVariables false
namespace Go.Proofs.Ytemkggecempmgaa
open Go.RowKit

theorem getD_ok {α : Type} {l : List α} {i : Nat} {x d : α} (h : l[i]? = some x) : l.getD i d = x := by simp [List.getD, h]
theorem ts_at {ts : List Int} (h : tsOk ts) {k : Nat} {z : Int} (hz : ts[k]? = some z) : 0 ≤ z ∧ z ≤ 10000000 := by
  have := h k
  rw [getD_ok hz] at this
  exact this
set_option maxHeartbeats 1000000 in
theorem spread_any (g n c : Nat) (A : Option Addr) (ts : List Int) (w : World) (h6 : w.cell? ⟨g, 6, none⟩ = some (.slice A n c)) (h : Rd w w.heap.size 1 A n (iv ts)) (hn : n ≤ 1048576) (hc : n ≤ c) (ho : tsOk ts) :
    Calls Try.prog 99 #[.pointer (some ⟨g, 0, none⟩)] w fun e w' => e = .returned (.int .i64 (spr ts)) ∧ w = w' := by
  have HN := Lib.hid h.len
  have H := Lib.hid h
  have HO := Lib.hid ho
  have HE : Hid (sprTo ts n = spr ts) := Lib.hid (by rw [spr, h.len])
  clear h ho
  go_enter Try.func99, Try.ntmps99
  go_wp2
  go_loop [13, 3] (fun i m => ∃ (k : Nat) (x : Int), k ≤ n ∧ i = .int .i64 k ∧ m = .int .i64 x ∧ Hid (x = sprTo ts k) ∧ (0 ≤ x ∧ x ≤ 10000000)) (fun i _ => n - (intOf i).toNat)
  case atStart => exact ⟨0, 0, by omega, rfl, rfl, Lib.hid rfl, by omega⟩
  case round =>
    obtain ⟨k, x, hk, rfl, rfl, HX, xb⟩ := hrel
    by_cases hlt : k < n
    · obtain ⟨a, ha, _⟩ := getD_of (l := ts) (i := k) (by rw [HN.out]; exact hlt)
      obtain ⟨b, o, rfl, _, hcs⟩ := H.out.ints (by omega)
      have c0 : w.cell? ⟨b, o + k, none⟩ = some (.int .i64 a) := hcs k a ha
      have ab := ts_at HO.out ha
      have HS : Hid (sprTo ts (k + 1) = spr1 ts a x k) := Lib.hid (by rw [sprTo, HX.out, getD_ok ha])
      have CS := Lib.hid hcs
      clear hcs ha
      go_wp2
      go_loop [25, 3] (fun i m => ∃ (j : Nat) (y : Int), j ≤ k ∧ i = .int .i64 j ∧ m = .int .i64 y ∧ Hid (y = spr1 ts a x j) ∧ (0 ≤ y ∧ y ≤ 10000000)) (fun i _ => k - (intOf i).toNat)
      case atStart => exact ⟨0, x, by omega, rfl, rfl, Lib.hid rfl, xb⟩
      case round =>
        obtain ⟨j, y, hj, rfl, rfl, HY, yb⟩ := hrel
        by_cases hlt2 : j < k
        · obtain ⟨z, hz, _⟩ := getD_of (l := ts) (i := j) (by rw [HN.out]; omega)
          have c1 : w.cell? ⟨b, o + j, none⟩ = some (.int .i64 z) := CS.out j z hz
          have zb := ts_at HO.out hz
          have HS2 : Hid (max y (max (a - z) (z - a)) = spr1 ts a x (j + 1)) := Lib.hid (by rw [spr1, ← HY.out, getD_ok hz])
          clear hz
          obtain ⟨d, hd⟩ : ∃ d, d = max (a - z) (z - a) := ⟨_, rfl⟩
          have CD := distance_any a z w ab.1 (by omega) zb.1 (by omega)
          rw [← hd] at CD HS2
          have db : 0 ≤ d ∧ d ≤ 10000000 := by omega
          clear hd
          by_cases hm : y < d
          · have HS3 : Hid (d = spr1 ts a x (j + 1)) := Lib.hid (by rw [← HS2.out]; omega)
            go_wp2_with ((go_at_call 101; refine (CD).mono ?_; rintro e w' ⟨rfl, rfl⟩))
            go_round
            case rel => exact ⟨j + 1, d, by omega, by go_num, rfl, HS3, db⟩
            case measure => simp [intOf]; omega
          · have HS3 : Hid (y = spr1 ts a x (j + 1)) := Lib.hid (by rw [← HS2.out]; omega)
            go_wp2_with ((go_at_call 101; refine (CD).mono ?_; rintro e w' ⟨rfl, rfl⟩))
            go_round
            case rel => exact ⟨j + 1, y, by omega, by go_num, rfl, HS3, yb⟩
            case measure => simp [intOf]; omega
        · obtain rfl : j = k := by omega
          go_wp2
          go_round
          case rel => exact ⟨j + 1, y, by omega, by go_num, rfl, Lib.hid (by rw [HS.out]; exact HY.out), yb⟩
          case measure => simp [intOf]; omega
    · obtain rfl : k = n := by omega
      go_wp2
      go_ret
      exact ⟨ret_int (by rw [HX.out, HE.out]), rfl⟩
end Go.Proofs.Ytemkggecempmgaa
