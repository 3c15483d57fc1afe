/- PegAt, WayIn. -/
import Derived.Test.YtgbpkblhokjbbaaPegs
set_option linter.unusedVariables false
namespace Go.Proofs.Ytgbpkblhokjbbaa
open Go.RowKit

theorem ret_pr {a b c d : Int} (h : a = c) (g : b = d) : Ending.returned (.tuple #[.int .i64 a, .int .i64 b]) = .returned (.tuple #[.int .i64 c, .int .i64 d]) := by rw [h, g]
def pegL (s0 : ByteArray) (a1 a2 a3 way : Int) : Int × Int := if pegB s0 a1 a2 a3 = true then (if inB way 0 1000 = true then (if a2 < way then (0, 2) else (pegT a1 a3 way, 0)) else (0, 2)) else (0, 1)
def wayL (s0 : ByteArray) (a1 a2 a3 hole : Int) : Int × Int := if pegB s0 a1 a2 a3 = true then (if inB hole 20 200 = true then (if pegW a1 a3 hole ≤ a2 then (pegW a1 a3 hole, 0) else (0, 3)) else (0, 2)) else (0, 1)
set_option maxHeartbeats 2000000 in
theorem PegAt_i (s0 : ByteArray) (a1 a2 a3 way : Int) (w : World) (z0 : s0.size ≤ maxLen) :
    Calls Try.prog 28 #[pegV s0 a1 a2 a3, .int .i64 way] w fun e w' => e = .returned (.tuple #[.int .i64 (pegL s0 a1 a2 a3 way).1, .int .i64 (pegL s0 a1 a2 a3 way).2]) ∧ Below w.heap.size w w' := by
  have hk := Lib.hid (Blk.new w 41 #[.string s0, .int .i64 a1, .int .i64 a2, .int .i64 a3])
  have hb0 := Lib.hid ((Below.refl w.heap.size w).alloc (Nat.le_refl _) (.cells #[.string s0, .int .i64 a1, .int .i64 a2, .int .i64 a3] 41))
  cases h : pegB s0 a1 a2 a3
  · simp only [pegL, h]
    go_enter Try.func28, Try.ntmps28
    go_wp2_with fail
    refine (pegvalid_is h _ z0).mono ?_
    rintro r w1 ⟨rfl, hb1⟩
    have k1 := Lib.hid (hk.out.below hb1 hk.out.lt)
    have b1 := Lib.hid (below_more hb0.out hb1 (Nat.le_refl _))
    clear hk hb0 hb1
    go_wp2
    go_ret2
    exact ⟨rfl, b1.out⟩
  cases g : inB way 0 1000
  · rw [show pegL s0 a1 a2 a3 way = (0, 2) by simp [pegL, h, g]]
    go_enter Try.func28, Try.ntmps28
    go_wp2_with fail
    refine (pegvalid_is h _ z0).mono ?_
    rintro r w1 ⟨rfl, hb1⟩
    have k1 := Lib.hid (hk.out.below hb1 hk.out.lt)
    have b1 := Lib.hid (below_more hb0.out hb1 (Nat.le_refl _))
    clear hk hb0 hb1
    go_wp2_with ((go_at_call 60; refine (isWay_any _ _).mono ?_; rintro e w' ⟨rfl, rfl⟩))
    go_ret2
    exact ⟨rfl, b1.out⟩
  have q := pegB_t h
  have wb := inB_t g
  by_cases hx : a2 < way
  · rw [show pegL s0 a1 a2 a3 way = (0, 2) by simp [pegL, h, g, hx]]
    go_enter Try.func28, Try.ntmps28
    go_wp2_with fail
    refine (pegvalid_is h _ z0).mono ?_
    rintro r w1 ⟨rfl, hb1⟩
    have k1 := Lib.hid (hk.out.below hb1 hk.out.lt)
    have b1 := Lib.hid (below_more hb0.out hb1 (Nat.le_refl _))
    clear hk hb0 hb1
    have hc := k1.out.cell
    go_wp2_with ((go_at_call 60; refine (isWay_any _ _).mono ?_; rintro e w' ⟨rfl, rfl⟩))
    go_ret2
    exact ⟨rfl, b1.out⟩
  · rw [show pegL s0 a1 a2 a3 way = (pegT a1 a3 way, 0) by simp [pegL, h, g, hx]]
    go_enter Try.func28, Try.ntmps28
    go_wp2_with fail
    refine (pegvalid_is h _ z0).mono ?_
    rintro r w1 ⟨rfl, hb1⟩
    have k1 := Lib.hid (hk.out.below hb1 hk.out.lt)
    have b1 := Lib.hid (below_more hb0.out hb1 (Nat.le_refl _))
    clear hk hb0 hb1
    have hc := k1.out.cell
    go_wp2_with ((go_at_call 60; refine (isWay_any _ _).mono ?_; rintro e w' ⟨rfl, rfl⟩))
    refine (pegat_i _ _ _ _ _ _ q.2.1 q.2.2.2 g).mono ?_
    rintro r w2 ⟨rfl, hb2⟩
    go_wp2
    go_ret2
    exact ⟨rfl, below_more b1.out hb2 (Nat.le_refl _)⟩
set_option maxHeartbeats 2000000 in
theorem WayIn_i (s0 : ByteArray) (a1 a2 a3 hole : Int) (w : World) (z0 : s0.size ≤ maxLen) :
    Calls Try.prog 40 #[pegV s0 a1 a2 a3, .int .i64 hole] w fun e w' => e = .returned (.tuple #[.int .i64 (wayL s0 a1 a2 a3 hole).1, .int .i64 (wayL s0 a1 a2 a3 hole).2]) ∧ Below w.heap.size w w' := by
  have hk := Lib.hid (Blk.new w 41 #[.string s0, .int .i64 a1, .int .i64 a2, .int .i64 a3])
  have hb0 := Lib.hid ((Below.refl w.heap.size w).alloc (Nat.le_refl _) (.cells #[.string s0, .int .i64 a1, .int .i64 a2, .int .i64 a3] 41))
  cases h : pegB s0 a1 a2 a3
  · simp only [wayL, h]
    go_enter Try.func40, Try.ntmps40
    go_wp2_with fail
    refine (pegvalid_is h _ z0).mono ?_
    rintro r w1 ⟨rfl, hb1⟩
    have k1 := Lib.hid (hk.out.below hb1 hk.out.lt)
    have b1 := Lib.hid (below_more hb0.out hb1 (Nat.le_refl _))
    clear hk hb0 hb1
    go_wp2
    go_ret2
    exact ⟨rfl, b1.out⟩
  cases g : inB hole 20 200
  · rw [show wayL s0 a1 a2 a3 hole = (0, 2) by simp [wayL, h, g]]
    go_enter Try.func40, Try.ntmps40
    go_wp2_with fail
    refine (pegvalid_is h _ z0).mono ?_
    rintro r w1 ⟨rfl, hb1⟩
    have k1 := Lib.hid (hk.out.below hb1 hk.out.lt)
    have b1 := Lib.hid (below_more hb0.out hb1 (Nat.le_refl _))
    clear hk hb0 hb1
    go_wp2_with ((go_at_call 74; refine (isHole_any _ _).mono ?_; rintro e w' ⟨rfl, rfl⟩))
    go_ret2
    exact ⟨rfl, b1.out⟩
  have q := pegB_t h
  have m := pegW_bd q.2.1 q.2.2.2 g
  by_cases hx : pegW a1 a3 hole ≤ a2
  · have dx : decide (pegW a1 a3 hole ≤ a2) = true := by simpa using hx
    rw [show wayL s0 a1 a2 a3 hole = (pegW a1 a3 hole, 0) by simp [wayL, h, g, hx]]
    go_enter Try.func40, Try.ntmps40
    go_wp2_with fail
    refine (pegvalid_is h _ z0).mono ?_
    rintro r w1 ⟨rfl, hb1⟩
    have k1 := Lib.hid (hk.out.below hb1 hk.out.lt)
    have b1 := Lib.hid (below_more hb0.out hb1 (Nat.le_refl _))
    clear hk hb0 hb1
    have hc := k1.out.cell
    go_wp2_with ((go_at_call 74; refine (isHole_any _ _).mono ?_; rintro e w' ⟨rfl, rfl⟩))
    refine (wayIn_i _ _ _ _ _ _ q.2.1 q.2.2.2 g).mono ?_
    rintro r w2 ⟨rfl, hb2⟩
    
    go_wp2
    go_ret2
    exact ⟨rfl, below_more b1.out hb2 (Nat.le_refl _)⟩
  · have dx : decide (pegW a1 a3 hole ≤ a2) = false := by simpa using hx
    rw [show wayL s0 a1 a2 a3 hole = (0, 3) by simp [wayL, h, g, hx]]
    go_enter Try.func40, Try.ntmps40
    go_wp2_with fail
    refine (pegvalid_is h _ z0).mono ?_
    rintro r w1 ⟨rfl, hb1⟩
    have k1 := Lib.hid (hk.out.below hb1 hk.out.lt)
    have b1 := Lib.hid (below_more hb0.out hb1 (Nat.le_refl _))
    clear hk hb0 hb1
    have hc := k1.out.cell
    go_wp2_with ((go_at_call 74; refine (isHole_any _ _).mono ?_; rintro e w' ⟨rfl, rfl⟩))
    refine (wayIn_i _ _ _ _ _ _ q.2.1 q.2.2.2 g).mono ?_
    rintro r w2 ⟨rfl, hb2⟩
    
    go_wp2
    go_ret2
    exact ⟨rfl, below_more b1.out hb2 (Nat.le_refl _)⟩
set_option maxHeartbeats 2000000 in
theorem PegAt_s (s0 : ByteArray) (a1 a2 a3 way : Int) (w : World) (z0 : s0.size ≤ maxLen) :
    Calls Try.prog 26 #[pegV s0 a1 a2 a3, .int .i64 way] w fun e w' => e = .returned (.tuple #[.int .i64 (pegL s0 a1 a2 a3 way).1, .int .i64 (pegL s0 a1 a2 a3 way).2]) ∧ Below w.heap.size w w' := by
  have hk := Lib.hid (Blk.new w 41 #[.string s0, .int .i64 a1, .int .i64 a2, .int .i64 a3])
  have hb0 := Lib.hid ((Below.refl w.heap.size w).alloc (Nat.le_refl _) (.cells #[.string s0, .int .i64 a1, .int .i64 a2, .int .i64 a3] 41))
  cases h : pegB s0 a1 a2 a3
  · simp only [pegL, h]
    go_enter Try.func26, Try.ntmps26
    go_wp2_with fail
    refine (pegone_is h _ z0 hk.out).mono ?_
    rintro r w' ⟨rfl, rfl⟩
    generalize w.alloc (.cells #[.string s0, .int .i64 a1, .int .i64 a2, .int .i64 a3] 41) = w1 at hk hb0 ⊢
    have k1 := hk
    have b1 := hb0
    clear hk hb0
    go_wp2
    go_ret2
    exact ⟨rfl, b1.out⟩
  cases g : inB way 0 1000
  · rw [show pegL s0 a1 a2 a3 way = (0, 2) by simp [pegL, h, g]]
    go_enter Try.func26, Try.ntmps26
    go_wp2_with fail
    refine (pegone_is h _ z0 hk.out).mono ?_
    rintro r w' ⟨rfl, rfl⟩
    generalize w.alloc (.cells #[.string s0, .int .i64 a1, .int .i64 a2, .int .i64 a3] 41) = w1 at hk hb0 ⊢
    have k1 := hk
    have b1 := hb0
    clear hk hb0
    go_wp2_with ((go_at_call 58; refine (l12Way_any _ _).mono ?_; rintro e w' ⟨rfl, rfl⟩))
    go_ret2
    exact ⟨rfl, b1.out⟩
  have q := pegB_t h
  have wb := inB_t g
  by_cases hx : a2 < way
  · rw [show pegL s0 a1 a2 a3 way = (0, 2) by simp [pegL, h, g, hx]]
    go_enter Try.func26, Try.ntmps26
    go_wp2_with fail
    refine (pegone_is h _ z0 hk.out).mono ?_
    rintro r w' ⟨rfl, rfl⟩
    generalize w.alloc (.cells #[.string s0, .int .i64 a1, .int .i64 a2, .int .i64 a3] 41) = w1 at hk hb0 ⊢
    have k1 := hk
    have b1 := hb0
    clear hk hb0
    have hc := k1.out.cell
    go_wp2_with ((go_at_call 58; refine (l12Way_any _ _).mono ?_; rintro e w' ⟨rfl, rfl⟩))
    go_ret2
    exact ⟨rfl, b1.out⟩
  · rw [show pegL s0 a1 a2 a3 way = (pegT a1 a3 way, 0) by simp [pegL, h, g, hx]]
    go_enter Try.func26, Try.ntmps26
    go_wp2_with fail
    refine (pegone_is h _ z0 hk.out).mono ?_
    rintro r w' ⟨rfl, rfl⟩
    generalize w.alloc (.cells #[.string s0, .int .i64 a1, .int .i64 a2, .int .i64 a3] 41) = w1 at hk hb0 ⊢
    have k1 := hk
    have b1 := hb0
    clear hk hb0
    have hc := k1.out.cell
    go_wp2_with ((go_at_call 58; refine (l12Way_any _ _).mono ?_; rintro e w' ⟨rfl, rfl⟩))
    have ta := inB_t q.2.1
    have tb := inB_t q.2.2.2
    have hq : 0 ≤ way / a3 ∧ way / a3 ≤ 1000 := ⟨Int.ediv_nonneg wb.1 (by omega), Int.le_trans (Int.ediv_le_self _ wb.1) wb.2⟩
    have hz : (a3 == 0) = false := by simp; omega
    have e1 : IntKind.i64.wrap (a1 + way / a3) = a1 + way / a3 := IntWalk.i64_in _ (by omega)
    clear hc q g
    have hc := bel_cell k1.out k1.out.lt
    (refine wp_region_bel w1.heap.size w1 (Below.refl _ _) (by kernel_rfl) (by kernel_rfl) ?_; (repeat (go_big_quiet_step ((first | fail)))); refine wpQuiet_nil ?_; rintro w2 ⟨⟨_, hb2⟩, rfl⟩)
    clear e1 hc
    go_wp2
    go_ret2
    exact ⟨rfl, below_more b1.out hb2 (Nat.le_refl _)⟩
set_option maxHeartbeats 2000000 in
theorem WayIn_s (s0 : ByteArray) (a1 a2 a3 hole : Int) (w : World) (z0 : s0.size ≤ maxLen) :
    Calls Try.prog 39 #[pegV s0 a1 a2 a3, .int .i64 hole] w fun e w' => e = .returned (.tuple #[.int .i64 (wayL s0 a1 a2 a3 hole).1, .int .i64 (wayL s0 a1 a2 a3 hole).2]) ∧ Below w.heap.size w w' := by
  have hk := Lib.hid (Blk.new w 41 #[.string s0, .int .i64 a1, .int .i64 a2, .int .i64 a3])
  have hb0 := Lib.hid ((Below.refl w.heap.size w).alloc (Nat.le_refl _) (.cells #[.string s0, .int .i64 a1, .int .i64 a2, .int .i64 a3] 41))
  cases h : pegB s0 a1 a2 a3
  · simp only [wayL, h]
    go_enter Try.func39, Try.ntmps39
    go_wp2_with fail
    refine (pegone_is h _ z0 hk.out).mono ?_
    rintro r w' ⟨rfl, rfl⟩
    generalize w.alloc (.cells #[.string s0, .int .i64 a1, .int .i64 a2, .int .i64 a3] 41) = w1 at hk hb0 ⊢
    have k1 := hk
    have b1 := hb0
    clear hk hb0
    go_wp2
    go_ret2
    exact ⟨rfl, b1.out⟩
  cases g : inB hole 20 200
  · rw [show wayL s0 a1 a2 a3 hole = (0, 2) by simp [wayL, h, g]]
    go_enter Try.func39, Try.ntmps39
    go_wp2_with fail
    refine (pegone_is h _ z0 hk.out).mono ?_
    rintro r w' ⟨rfl, rfl⟩
    generalize w.alloc (.cells #[.string s0, .int .i64 a1, .int .i64 a2, .int .i64 a3] 41) = w1 at hk hb0 ⊢
    have k1 := hk
    have b1 := hb0
    clear hk hb0
    go_wp2_with ((go_at_call 72; refine (l12Hole_any _ _).mono ?_; rintro e w' ⟨rfl, rfl⟩))
    go_ret2
    exact ⟨rfl, b1.out⟩
  have q := pegB_t h
  have m := pegW_bd q.2.1 q.2.2.2 g
  by_cases hx : pegW a1 a3 hole ≤ a2
  · have dx : decide (pegW a1 a3 hole ≤ a2) = true := by simpa using hx
    rw [show wayL s0 a1 a2 a3 hole = (pegW a1 a3 hole, 0) by simp [wayL, h, g, hx]]
    go_enter Try.func39, Try.ntmps39
    go_wp2_with fail
    refine (pegone_is h _ z0 hk.out).mono ?_
    rintro r w' ⟨rfl, rfl⟩
    generalize w.alloc (.cells #[.string s0, .int .i64 a1, .int .i64 a2, .int .i64 a3] 41) = w1 at hk hb0 ⊢
    have k1 := hk
    have b1 := hb0
    clear hk hb0
    have hc := k1.out.cell
    go_wp2_with ((go_at_call 72; refine (l12Hole_any _ _).mono ?_; rintro e w' ⟨rfl, rfl⟩))
    refine (wayIn_s _ _ _ _ _ _ _ q.2.1 q.2.2.2 g k1.out).mono ?_
    rintro r w2 ⟨rfl, hb2⟩
    rw [if_pos hx]
    go_wp2
    go_ret2
    exact ⟨rfl, below_more b1.out hb2 (Nat.le_refl _)⟩
  · have dx : decide (pegW a1 a3 hole ≤ a2) = false := by simpa using hx
    rw [show wayL s0 a1 a2 a3 hole = (0, 3) by simp [wayL, h, g, hx]]
    go_enter Try.func39, Try.ntmps39
    go_wp2_with fail
    refine (pegone_is h _ z0 hk.out).mono ?_
    rintro r w' ⟨rfl, rfl⟩
    generalize w.alloc (.cells #[.string s0, .int .i64 a1, .int .i64 a2, .int .i64 a3] 41) = w1 at hk hb0 ⊢
    have k1 := hk
    have b1 := hb0
    clear hk hb0
    have hc := k1.out.cell
    go_wp2_with ((go_at_call 72; refine (l12Hole_any _ _).mono ?_; rintro e w' ⟨rfl, rfl⟩))
    refine (wayIn_s _ _ _ _ _ _ _ q.2.1 q.2.2.2 g k1.out).mono ?_
    rintro r w2 ⟨rfl, hb2⟩
    rw [if_neg (by omega)]
    go_wp2
    go_ret2
    exact ⟨rfl, below_more b1.out hb2 (Nat.le_refl _)⟩
end Go.Proofs.Ytgbpkblhokjbbaa
