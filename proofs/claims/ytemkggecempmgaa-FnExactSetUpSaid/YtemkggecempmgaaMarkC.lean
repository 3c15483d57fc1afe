/- The law's marks in slices of strings (of instruments). -/
import Derived.Test.YtemkggecempmgaaCords
import Derived.Test.YtemkggecempmgaaLines
set_option linter.unusedVariables false
namespace Go.Proofs.Ytemkggecempmgaa
open Go.RowKit

theorem tch_set {lo hi : Nat} {a w : World} (h : Tch lo hi a w) {p : Addr} (h1 : lo ≤ p.block) (h2 : p.block < hi) (u : Value) : Tch lo hi a (w.setCell p u) :=
  ⟨h.os, h.tape, h.output, by simpa using h.size, fun k hk hs => (Below.heap_setCell _ _ _ _ (by omega)).trans (h.block k hk hs)⟩
set_option maxHeartbeats 2000000 in
theorem markCordS_any (g c n : Nat) (k : Int) (cs : Array Value) (w : World) (h : Blk w g 39 cs) (hn : cs.size = n * 4) (hm : n ≤ 1048576) (k0 : 0 ≤ k) (k1 : k ≤ 1000) :
    Calls Try.prog 31 #[.slice (some ⟨g, 0, none⟩) n c, .int .i64 k] w fun e w' => e = .returned (.int .i64 (k + 4 * n)) ∧ Tch g (g + 1) w w' := by
  have H := Lib.hid h
  have T0 := Lib.hid (Tch.refl g (g + 1) w)
  clear h
  go_enter Try.func31, Try.ntmps31
  go_wp2
  go_loopw [5, 1] (fun i kv wr => ∃ (j : Nat) (q : Int), j ≤ n ∧ i = .int .i64 j ∧ kv = .int .i64 q ∧ q = k + 4 * j ∧ (∃ ds : Array Value, Hid (Blk wr g 39 ds) ∧ ds.size = n * 4) ∧ Hid (Tch g (g + 1) w wr)) (fun i _ _ => n - (intOf i).toNat)
  case atStart => exact ⟨0, k, Nat.zero_le _, rfl, rfl, by omega, ⟨cs, H, hn⟩, T0⟩
  case round =>
    obtain ⟨j, q, hj, rfl, rfl, hq, ⟨ds, K, hs⟩, T⟩ := hrel
    by_cases hlt : j < n
    · have qb : 0 ≤ q ∧ q ≤ 4195304 := by omega
      have K1 := K.out.set_ (j * 4) (.int .i64 q)
      have K2 := K1.set_ (j * 4 + 1) (.int .i64 (q + 1))
      have K3 := K2.set_ (j * 4 + 2) (.int .i64 (q + 2))
      have K4 := K3.set_ (j * 4 + 3) (.int .i64 (q + 3))
      have T4 := tch_set (tch_set (tch_set (tch_set T.out (p := ⟨g, j * 4, none⟩) (Nat.le_refl _) (by simp) (.int .i64 q)) (p := ⟨g, j * 4 + 1, none⟩) (Nat.le_refl _) (by simp) (.int .i64 (q + 1))) (p := ⟨g, j * 4 + 2, none⟩) (Nat.le_refl _) (by simp) (.int .i64 (q + 2))) (p := ⟨g, j * 4 + 3, none⟩) (Nat.le_refl _) (by simp) (.int .i64 (q + 3))
      have f0 := K.out.frozen (j * 4)
      have f1 := K.out.frozen (j * 4 + 1)
      have f2 := K.out.frozen (j * 4 + 2)
      have f3 := K.out.frozen (j * 4 + 3)
      have g0 := K.out.cell (j * 4)
      have g1 := K.out.cell (j * 4 + 1)
      have g2 := K.out.cell (j * 4 + 2)
      have g3 := K.out.cell (j * 4 + 3)
      obtain ⟨x0, y0⟩ : ∃ x, ds[j * 4]? = some x := ⟨ds[j * 4], Array.getElem?_eq_getElem (by omega)⟩
      obtain ⟨x1, y1⟩ : ∃ x, ds[j * 4 + 1]? = some x := ⟨ds[j * 4 + 1], Array.getElem?_eq_getElem (by omega)⟩
      obtain ⟨x2, y2⟩ : ∃ x, ds[j * 4 + 2]? = some x := ⟨ds[j * 4 + 2], Array.getElem?_eq_getElem (by omega)⟩
      obtain ⟨x3, y3⟩ : ∃ x, ds[j * 4 + 3]? = some x := ⟨ds[j * 4 + 3], Array.getElem?_eq_getElem (by omega)⟩
      rw [y0] at g0
      rw [y1] at g1
      rw [y2] at g2
      rw [y3] at g3
      have K4 := Lib.hid K4
      have T4 := Lib.hid T4
      have hs2 : ((((ds.setIfInBounds (j * 4) (.int .i64 q)).setIfInBounds (j * 4 + 1) (.int .i64 (q + 1))).setIfInBounds (j * 4 + 2) (.int .i64 (q + 2))).setIfInBounds (j * 4 + 3) (.int .i64 (q + 3))).size = n * 4 := by simpa using hs
      have HS2 := Lib.hid hs2
      have HQ := Lib.hid hq
      have e1 : q + 1 + 1 = q + 2 := by omega
      have e2 : q + 2 + 1 = q + 3 := by omega
      clear K K1 K2 K3 T y0 y1 y2 y3 hs hs2 hq
      go_wp2
      go_roundw
      case rel => exact ⟨j + 1, q + 4, by omega, by go_num, by go_num, by have := HQ.out; omega, ⟨_, K4, HS2.out⟩, T4⟩
      case measure => simp [intOf]; omega
    · obtain rfl : j = n := by omega
      go_wp2
      go_ret
      exact ⟨ret_int hq, T.out⟩
end Go.Proofs.Ytemkggecempmgaa
