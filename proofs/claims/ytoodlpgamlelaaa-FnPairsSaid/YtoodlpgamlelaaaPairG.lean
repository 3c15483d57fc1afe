/- Pairs of planks: the gap of two planks, the reference's. -/
import Derived.Test.YtoodlpgamlelaaaPairX
set_option linter.unusedVariables false
set_option linter.unusedSimpArgs false
namespace Go.Proofs.Ytoodlpgamlelaaa
open Go.RowKit

theorem plkAt_blk {w : World} {N : Nat} {x : PlankD} (h : Blk w N 35 #[.string x.s0, .int .i64 x.a1, .int .i64 x.a2, .int .i64 x.a3, .int .i64 x.a4, .int .i64 x.a5]) : PlkAt w N 0 x :=
  ⟨h.lt, h.cell 1, h.cell 2, h.cell 3, h.cell 4, h.cell 5⟩
set_option maxHeartbeats 2000000 in
theorem PairGap_s (x y : PlankD) (w : World) (hx : plankP x = true) (hy : plankP y = true) (zx : x.s0.size ≤ maxLen) (zy : y.s0.size ≤ maxLen) :
    Calls Try.prog 9 #[plankV x.s0 x.a1 x.a2 x.a3 x.a4 x.a5, plankV y.s0 y.a1 y.a2 y.a3 y.a4 y.a5] w fun e w' => e = .returned (.tuple #[.int .i64 (gapL x y), .int .i64 0]) ∧ Below w.heap.size w w' := by
  have B1 := (Below.refl w.heap.size w).alloc (Nat.le_refl _) (.cells #[.string x.s0, .int .i64 x.a1, .int .i64 x.a2, .int .i64 x.a3, .int .i64 x.a4, .int .i64 x.a5] 35)
  have K1 := Blk.new w 35 #[.string x.s0, .int .i64 x.a1, .int .i64 x.a2, .int .i64 x.a3, .int .i64 x.a4, .int .i64 x.a5]
  have K2 := Blk.new (w.alloc (.cells #[.string x.s0, .int .i64 x.a1, .int .i64 x.a2, .int .i64 x.a3, .int .i64 x.a4, .int .i64 x.a5] 35)) 35 #[.string y.s0, .int .i64 y.a1, .int .i64 y.a2, .int .i64 y.a3, .int .i64 y.a4, .int .i64 y.a5]
  have K3 := K1.alloc (.cells #[.string y.s0, .int .i64 y.a1, .int .i64 y.a2, .int .i64 y.a3, .int .i64 y.a4, .int .i64 y.a5] 35)
  have B2 := B1.alloc B1.size (.cells #[.string y.s0, .int .i64 y.a1, .int .i64 y.a2, .int .i64 y.a3, .int .i64 y.a4, .int .i64 y.a5] 35)
  have e1 : (w.alloc (.cells #[.string x.s0, .int .i64 x.a1, .int .i64 x.a2, .int .i64 x.a3, .int .i64 x.a4, .int .i64 x.a5] 35)).heap.size = w.heap.size + 1 := by simp
  rw [e1] at K2
  have B2 := Lib.hid B2
  have rx := plankR_of hx
  have ry := plankR_of hy
  unfold plankP at hx hy
  clear e1 B1 K1
  obtain ⟨p, hp⟩ : ∃ p, p = w.heap.size := ⟨_, rfl⟩
  rw [← hp] at K2 K3
  have RX := Lib.hid rx
  have RY := Lib.hid ry
  clear rx ry
  go_enter Try.func9, Try.ntmps9
  go_upto_region 1 with fail
  rw [← hp]
  clear hp
  generalize ((w.alloc (.cells #[.string x.s0, .int .i64 x.a1, .int .i64 x.a2, .int .i64 x.a3, .int .i64 x.a4, .int .i64 x.a5] 35)).alloc (.cells #[.string y.s0, .int .i64 y.a1, .int .i64 y.a2, .int .i64 y.a3, .int .i64 y.a4, .int .i64 y.a5] 35)) = w2 at K2 K3 B2 ⊢
  have C1 := plankone_is hx w2 zx K3
  have C2 := plankone_is hy w2 zy K2
  have CG := l03Gap_g p 0 (p + 1) 0 x y w2 RX.out RY.out (plkAt_blk K3) (plkAt_blk K2)
  clear K2 K3
  go_wp2_with fail
  refine C1.mono ?_
  rintro e w3 ⟨rfl, rfl⟩
  go_wp2_with fail
  refine C2.mono ?_
  rintro e w3 ⟨rfl, rfl⟩
  clear C1 C2
  go_wp2_with fail
  refine CG.mono ?_
  rintro e w3 ⟨rfl, hb⟩
  go_wp2
  go_ret2
  exact ⟨rfl, below_more B2.out hb (Nat.le_refl _)⟩
end Go.Proofs.Ytoodlpgamlelaaa
