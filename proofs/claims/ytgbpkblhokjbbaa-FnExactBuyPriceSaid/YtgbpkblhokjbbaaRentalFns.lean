/- EndOf, DueBy, BuyPrice. -/
import Derived.Test.YtgbpkblhokjbbaaRentals
set_option linter.unusedVariables false
namespace Go.Proofs.Ytgbpkblhokjbbaa
open Go.RowKit

theorem ret_pq {a b c d : Int} (h : a = c) (g : b = d) : Ending.returned (.tuple #[.int .i64 a, .int .i64 b]) = .returned (.tuple #[.int .i64 c, .int .i64 d]) := by rw [h, g]
def endL (s0 s1 : ByteArray) (a2 a3 a4 : Int) : Int × Int := if rentalB s0 s1 a2 a3 a4 = true then (endR a2 a3, 0) else (0, 1)
def dueL (s0 s1 : ByteArray) (a2 a3 a4 day : Int) : Int × Int := if rentalB s0 s1 a2 a3 a4 = true then (if inB day 0 100000 = true then (a4 * dueM a2 a3 day, 0) else (0, 2)) else (0, 1)
def buyP (a2 a3 a4 day v s : Int) : Int := max 0 (v - s * (a4 * dueM a2 a3 day) / 1000)
def buyL (s0 s1 : ByteArray) (a2 a3 a4 day v s : Int) : Int × Int := if rentalB s0 s1 a2 a3 a4 = true then (if (inB day 0 100000 && (inB v 0 10000000 && inB s 0 1000)) = true then (buyP a2 a3 a4 day v s, 0) else (0, 2)) else (0, 1)
set_option maxHeartbeats 2000000 in
theorem EndOf_i (s0 s1 : ByteArray) (a2 a3 a4 : Int) (w : World) (z0 : s0.size ≤ maxLen) (z1 : s1.size ≤ maxLen) :
    Calls Try.prog 32 #[rentalV s0 s1 a2 a3 a4] w fun e w' => e = .returned (.tuple #[.int .i64 (endL s0 s1 a2 a3 a4).1, .int .i64 (endL s0 s1 a2 a3 a4).2]) ∧ Below w.heap.size w w' := by
  have hk := Lib.hid (Blk.new w 48 #[.string s0, .string s1, .int .i64 a2, .int .i64 a3, .int .i64 a4])
  have hb0 := Lib.hid ((Below.refl w.heap.size w).alloc (Nat.le_refl _) (.cells #[.string s0, .string s1, .int .i64 a2, .int .i64 a3, .int .i64 a4] 48))
  cases h : rentalB s0 s1 a2 a3 a4
  · simp only [endL, h]
    go_enter Try.func32, Try.ntmps32
    go_wp2_with fail
    refine (rentalvalid_is h _ z0 z1).mono ?_
    rintro r w1 ⟨rfl, hb1⟩
    have k1 := Lib.hid (hk.out.below hb1 hk.out.lt)
    have b1 := Lib.hid (below_more hb0.out hb1 (Nat.le_refl _))
    clear hk hb0 hb1
    go_wp2
    go_ret2
    exact ⟨rfl, b1.out⟩
  · have q := rentalB_t h
    simp only [endL, h, if_true]
    go_enter Try.func32, Try.ntmps32
    go_wp2_with fail
    refine (rentalvalid_is h _ z0 z1).mono ?_
    rintro r w1 ⟨rfl, hb1⟩
    have k1 := Lib.hid (hk.out.below hb1 hk.out.lt)
    have b1 := Lib.hid (below_more hb0.out hb1 (Nat.le_refl _))
    clear hk hb0 hb1
    have hc := k1.out.cell
    go_wp2_with fail
    refine (end_i _ _ _ _ _ _ q.2.2.1 q.2.2.2.1).mono ?_
    rintro r w2 ⟨rfl, hb2⟩
    go_wp2
    go_ret2
    exact ⟨rfl, below_more b1.out hb2 (Nat.le_refl _)⟩
set_option maxHeartbeats 2000000 in
theorem DueBy_i (s0 s1 : ByteArray) (a2 a3 a4 day : Int) (w : World) (z0 : s0.size ≤ maxLen) (z1 : s1.size ≤ maxLen) :
    Calls Try.prog 42 #[rentalV s0 s1 a2 a3 a4, .int .i64 day] w fun e w' => e = .returned (.tuple #[.int .i64 (dueL s0 s1 a2 a3 a4 day).1, .int .i64 (dueL s0 s1 a2 a3 a4 day).2]) ∧ Below w.heap.size w w' := by
  have hk := Lib.hid (Blk.new w 48 #[.string s0, .string s1, .int .i64 a2, .int .i64 a3, .int .i64 a4])
  have hb0 := Lib.hid ((Below.refl w.heap.size w).alloc (Nat.le_refl _) (.cells #[.string s0, .string s1, .int .i64 a2, .int .i64 a3, .int .i64 a4] 48))
  cases h : rentalB s0 s1 a2 a3 a4
  · simp only [dueL, h]
    go_enter Try.func42, Try.ntmps42
    go_wp2_with fail
    refine (rentalvalid_is h _ z0 z1).mono ?_
    rintro r w1 ⟨rfl, hb1⟩
    have k1 := Lib.hid (hk.out.below hb1 hk.out.lt)
    have b1 := Lib.hid (below_more hb0.out hb1 (Nat.le_refl _))
    clear hk hb0 hb1
    go_wp2
    go_ret2
    exact ⟨rfl, b1.out⟩
  cases g : inB day 0 100000
  · rw [show dueL s0 s1 a2 a3 a4 day = (0, 2) by simp [dueL, h, g]]
    go_enter Try.func42, Try.ntmps42
    go_wp2_with fail
    refine (rentalvalid_is h _ z0 z1).mono ?_
    rintro r w1 ⟨rfl, hb1⟩
    have k1 := Lib.hid (hk.out.below hb1 hk.out.lt)
    have b1 := Lib.hid (below_more hb0.out hb1 (Nat.le_refl _))
    clear hk hb0 hb1
    go_wp2_with ((go_at_call 78; refine (isRentDay_any _ _).mono ?_; rintro e w' ⟨rfl, rfl⟩))
    go_ret2
    exact ⟨rfl, b1.out⟩
  · have q := rentalB_t h
    simp only [dueL, h, g, if_true]
    have dm := dueM_bd q.2.2.1 q.2.2.2.1 g
    have fe := inB_t q.2.2.2.2
    have mm := mul_bd fe.1 fe.2 dm.1 dm.2
    go_enter Try.func42, Try.ntmps42
    go_wp2_with fail
    refine (rentalvalid_is h _ z0 z1).mono ?_
    rintro r w1 ⟨rfl, hb1⟩
    have k1 := Lib.hid (hk.out.below hb1 hk.out.lt)
    have b1 := Lib.hid (below_more hb0.out hb1 (Nat.le_refl _))
    clear hk hb0 hb1
    have hc := k1.out.cell
    go_wp2_with ((go_at_call 78; refine (isRentDay_any _ _).mono ?_; rintro e w' ⟨rfl, rfl⟩))
    refine (due_i _ _ _ _ _ _ _ q.2.2.1 q.2.2.2.1 q.2.2.2.2 g).mono ?_
    rintro r w2 ⟨rfl, hb2⟩
    go_wp2
    go_ret2
    exact ⟨rfl, below_more b1.out hb2 (Nat.le_refl _)⟩
set_option maxHeartbeats 2000000 in
theorem BuyPrice_i (s0 s1 : ByteArray) (a2 a3 a4 day v s : Int) (w : World) (z0 : s0.size ≤ maxLen) (z1 : s1.size ≤ maxLen) :
    Calls Try.prog 44 #[rentalV s0 s1 a2 a3 a4, .int .i64 day, .int .i64 v, .int .i64 s] w fun e w' => e = .returned (.tuple #[.int .i64 (buyL s0 s1 a2 a3 a4 day v s).1, .int .i64 (buyL s0 s1 a2 a3 a4 day v s).2]) ∧ Below w.heap.size w w' := by
  have hk := Lib.hid (Blk.new w 48 #[.string s0, .string s1, .int .i64 a2, .int .i64 a3, .int .i64 a4])
  have hb0 := Lib.hid ((Below.refl w.heap.size w).alloc (Nat.le_refl _) (.cells #[.string s0, .string s1, .int .i64 a2, .int .i64 a3, .int .i64 a4] 48))
  cases h : rentalB s0 s1 a2 a3 a4
  · simp only [buyL, h]
    go_enter Try.func44, Try.ntmps44
    go_wp2_with fail
    refine (rentalvalid_is h _ z0 z1).mono ?_
    rintro r w1 ⟨rfl, hb1⟩
    have k1 := Lib.hid (hk.out.below hb1 hk.out.lt)
    have b1 := Lib.hid (below_more hb0.out hb1 (Nat.le_refl _))
    clear hk hb0 hb1
    go_wp2
    go_ret2
    exact ⟨rfl, b1.out⟩
  cases g : inB day 0 100000
  · rw [show buyL s0 s1 a2 a3 a4 day v s = (0, 2) by simp [buyL, h, g]]
    go_enter Try.func44, Try.ntmps44
    go_wp2_with fail
    refine (rentalvalid_is h _ z0 z1).mono ?_
    rintro r w1 ⟨rfl, hb1⟩
    have k1 := Lib.hid (hk.out.below hb1 hk.out.lt)
    have b1 := Lib.hid (below_more hb0.out hb1 (Nat.le_refl _))
    clear hk hb0 hb1
    go_wp2_with (first | (go_at_call 78; refine (isRentDay_any _ _).mono ?_; rintro e w' ⟨rfl, rfl⟩) | (go_at_call 68; refine (isMoney_any _ _).mono ?_; rintro e w' ⟨rfl, rfl⟩) | (go_at_call 82; refine (isShare_any _ _).mono ?_; rintro e w' ⟨rfl, rfl⟩))
    go_ret2
    exact ⟨rfl, b1.out⟩
  cases g2 : inB v 0 10000000
  · rw [show buyL s0 s1 a2 a3 a4 day v s = (0, 2) by simp [buyL, h, g2]]
    go_enter Try.func44, Try.ntmps44
    go_wp2_with fail
    refine (rentalvalid_is h _ z0 z1).mono ?_
    rintro r w1 ⟨rfl, hb1⟩
    have k1 := Lib.hid (hk.out.below hb1 hk.out.lt)
    have b1 := Lib.hid (below_more hb0.out hb1 (Nat.le_refl _))
    clear hk hb0 hb1
    go_wp2_with (first | (go_at_call 78; refine (isRentDay_any _ _).mono ?_; rintro e w' ⟨rfl, rfl⟩) | (go_at_call 68; refine (isMoney_any _ _).mono ?_; rintro e w' ⟨rfl, rfl⟩) | (go_at_call 82; refine (isShare_any _ _).mono ?_; rintro e w' ⟨rfl, rfl⟩))
    go_ret2
    exact ⟨rfl, b1.out⟩
  cases g3 : inB s 0 1000
  · rw [show buyL s0 s1 a2 a3 a4 day v s = (0, 2) by simp [buyL, h, g3]]
    go_enter Try.func44, Try.ntmps44
    go_wp2_with fail
    refine (rentalvalid_is h _ z0 z1).mono ?_
    rintro r w1 ⟨rfl, hb1⟩
    have k1 := Lib.hid (hk.out.below hb1 hk.out.lt)
    have b1 := Lib.hid (below_more hb0.out hb1 (Nat.le_refl _))
    clear hk hb0 hb1
    go_wp2_with (first | (go_at_call 78; refine (isRentDay_any _ _).mono ?_; rintro e w' ⟨rfl, rfl⟩) | (go_at_call 68; refine (isMoney_any _ _).mono ?_; rintro e w' ⟨rfl, rfl⟩) | (go_at_call 82; refine (isShare_any _ _).mono ?_; rintro e w' ⟨rfl, rfl⟩))
    go_ret2
    exact ⟨rfl, b1.out⟩
  · have q := rentalB_t h
    rw [show buyL s0 s1 a2 a3 a4 day v s = (buyP a2 a3 a4 day v s, 0) by simp [buyL, h, g, g2, g3]]
    have dm := dueM_bd q.2.2.1 q.2.2.2.1 g
    have fe := inB_t q.2.2.2.2
    have mm := mul_bd fe.1 fe.2 dm.1 dm.2
    have vv := inB_t g2
    have ss := inB_t g3
    have pp := mul_bd ss.1 ss.2 mm.1 mm.2
    go_enter Try.func44, Try.ntmps44
    go_wp2_with fail
    refine (rentalvalid_is h _ z0 z1).mono ?_
    rintro r w1 ⟨rfl, hb1⟩
    have k1 := Lib.hid (hk.out.below hb1 hk.out.lt)
    have b1 := Lib.hid (below_more hb0.out hb1 (Nat.le_refl _))
    clear hk hb0 hb1
    have hc := k1.out.cell
    by_cases hx : 0 < v - s * (a4 * dueM a2 a3 day) / 1000
    all_goals
      go_wp2_with (first | (go_at_call 78; refine (isRentDay_any _ _).mono ?_; rintro e w' ⟨rfl, rfl⟩) | (go_at_call 68; refine (isMoney_any _ _).mono ?_; rintro e w' ⟨rfl, rfl⟩) | (go_at_call 82; refine (isShare_any _ _).mono ?_; rintro e w' ⟨rfl, rfl⟩))
      refine (due_i _ _ _ _ _ _ _ q.2.2.1 q.2.2.2.1 q.2.2.2.2 g).mono ?_
      rintro r w2 ⟨rfl, hb2⟩
      go_wp2
      go_ret2
      exact ⟨by unfold buyP; refine ret_pq ?_ rfl; omega, below_more b1.out hb2 (Nat.le_refl _)⟩
set_option maxHeartbeats 2000000 in
theorem EndOf_s (s0 s1 : ByteArray) (a2 a3 a4 : Int) (w : World) (z0 : s0.size ≤ maxLen) (z1 : s1.size ≤ maxLen) :
    Calls Try.prog 30 #[rentalV s0 s1 a2 a3 a4] w fun e w' => e = .returned (.tuple #[.int .i64 (endL s0 s1 a2 a3 a4).1, .int .i64 (endL s0 s1 a2 a3 a4).2]) ∧ Below w.heap.size w w' := by
  have hk := Lib.hid (Blk.new w 48 #[.string s0, .string s1, .int .i64 a2, .int .i64 a3, .int .i64 a4])
  have hb0 := Lib.hid ((Below.refl w.heap.size w).alloc (Nat.le_refl _) (.cells #[.string s0, .string s1, .int .i64 a2, .int .i64 a3, .int .i64 a4] 48))
  cases h : rentalB s0 s1 a2 a3 a4
  · simp only [endL, h]
    go_enter Try.func30, Try.ntmps30
    go_wp2_with fail
    refine (rentalone_is h _ z0 z1 hk.out).mono ?_
    rintro r w' ⟨rfl, rfl⟩
    generalize w.alloc (.cells #[.string s0, .string s1, .int .i64 a2, .int .i64 a3, .int .i64 a4] 48) = w1 at hk hb0 ⊢
    have k1 := hk
    have b1 := hb0
    clear hk hb0
    go_wp2
    go_ret2
    exact ⟨rfl, b1.out⟩
  · have q := rentalB_t h
    simp only [endL, h, if_true]
    go_enter Try.func30, Try.ntmps30
    go_wp2_with fail
    refine (rentalone_is h _ z0 z1 hk.out).mono ?_
    rintro r w' ⟨rfl, rfl⟩
    generalize w.alloc (.cells #[.string s0, .string s1, .int .i64 a2, .int .i64 a3, .int .i64 a4] 48) = w1 at hk hb0 ⊢
    have k1 := hk
    have b1 := hb0
    clear hk hb0
    have hc := k1.out.cell
    go_wp2_with fail
    refine (end_s _ _ _ _ _ _ _ q.2.2.1 q.2.2.2.1 k1.out).mono ?_
    rintro r w2 ⟨rfl, hb2⟩
    go_wp2
    go_ret2
    exact ⟨rfl, below_more b1.out hb2 (Nat.le_refl _)⟩
set_option maxHeartbeats 2000000 in
theorem DueBy_s (s0 s1 : ByteArray) (a2 a3 a4 day : Int) (w : World) (z0 : s0.size ≤ maxLen) (z1 : s1.size ≤ maxLen) :
    Calls Try.prog 41 #[rentalV s0 s1 a2 a3 a4, .int .i64 day] w fun e w' => e = .returned (.tuple #[.int .i64 (dueL s0 s1 a2 a3 a4 day).1, .int .i64 (dueL s0 s1 a2 a3 a4 day).2]) ∧ Below w.heap.size w w' := by
  have hk := Lib.hid (Blk.new w 48 #[.string s0, .string s1, .int .i64 a2, .int .i64 a3, .int .i64 a4])
  have hb0 := Lib.hid ((Below.refl w.heap.size w).alloc (Nat.le_refl _) (.cells #[.string s0, .string s1, .int .i64 a2, .int .i64 a3, .int .i64 a4] 48))
  cases h : rentalB s0 s1 a2 a3 a4
  · simp only [dueL, h]
    go_enter Try.func41, Try.ntmps41
    go_wp2_with fail
    refine (rentalone_is h _ z0 z1 hk.out).mono ?_
    rintro r w' ⟨rfl, rfl⟩
    generalize w.alloc (.cells #[.string s0, .string s1, .int .i64 a2, .int .i64 a3, .int .i64 a4] 48) = w1 at hk hb0 ⊢
    have k1 := hk
    have b1 := hb0
    clear hk hb0
    go_wp2
    go_ret2
    exact ⟨rfl, b1.out⟩
  cases g : inB day 0 100000
  · rw [show dueL s0 s1 a2 a3 a4 day = (0, 2) by simp [dueL, h, g]]
    go_enter Try.func41, Try.ntmps41
    go_wp2_with fail
    refine (rentalone_is h _ z0 z1 hk.out).mono ?_
    rintro r w' ⟨rfl, rfl⟩
    generalize w.alloc (.cells #[.string s0, .string s1, .int .i64 a2, .int .i64 a3, .int .i64 a4] 48) = w1 at hk hb0 ⊢
    have k1 := hk
    have b1 := hb0
    clear hk hb0
    go_wp2_with ((go_at_call 76; refine (l21Day_any _ _).mono ?_; rintro e w' ⟨rfl, rfl⟩))
    go_ret2
    exact ⟨rfl, b1.out⟩
  · have q := rentalB_t h
    simp only [dueL, h, g, if_true]
    have dm := dueM_bd q.2.2.1 q.2.2.2.1 g
    have fe := inB_t q.2.2.2.2
    have mm := mul_bd fe.1 fe.2 dm.1 dm.2
    go_enter Try.func41, Try.ntmps41
    go_wp2_with fail
    refine (rentalone_is h _ z0 z1 hk.out).mono ?_
    rintro r w' ⟨rfl, rfl⟩
    generalize w.alloc (.cells #[.string s0, .string s1, .int .i64 a2, .int .i64 a3, .int .i64 a4] 48) = w1 at hk hb0 ⊢
    have k1 := hk
    have b1 := hb0
    clear hk hb0
    go_wp2_with ((go_at_call 76; refine (l21Day_any _ _).mono ?_; rintro e w' ⟨rfl, rfl⟩))
    have hc := bel_cell k1.out k1.out.lt
    have e1 : IntKind.i64.wrap (a4 * dueM a2 a3 day) = a4 * dueM a2 a3 day := IntWalk.i64_in _ (by omega)
    have Q2 := Lib.hid q.2.2.1
    have Q3 := Lib.hid q.2.2.2.1
    have G := Lib.hid g
    clear q g
    (refine wp_region_bel w1.heap.size w1 (Below.refl _ _) (by kernel_rfl) (by kernel_rfl) ?_; (repeat (go_big_quiet_step ((first | (go_at_call 77; exact bel_of (Nat.le_refl _) (due_s s0 s1 _ _ a4 _ w.heap.size _ Q2.out Q3.out G.out (k1.out.below (Bel.below _) k1.out.lt))))))); refine wpQuiet_nil ?_; rintro w2 ⟨⟨_, hb2⟩, rfl⟩)
    clear hc e1
    go_wp2
    go_ret2
    exact ⟨rfl, below_more b1.out hb2 (Nat.le_refl _)⟩
set_option maxHeartbeats 2000000 in
theorem BuyPrice_s (s0 s1 : ByteArray) (a2 a3 a4 day v s : Int) (w : World) (z0 : s0.size ≤ maxLen) (z1 : s1.size ≤ maxLen) :
    Calls Try.prog 43 #[rentalV s0 s1 a2 a3 a4, .int .i64 day, .int .i64 v, .int .i64 s] w fun e w' => e = .returned (.tuple #[.int .i64 (buyL s0 s1 a2 a3 a4 day v s).1, .int .i64 (buyL s0 s1 a2 a3 a4 day v s).2]) ∧ Below w.heap.size w w' := by
  have hk := Lib.hid (Blk.new w 48 #[.string s0, .string s1, .int .i64 a2, .int .i64 a3, .int .i64 a4])
  have hb0 := Lib.hid ((Below.refl w.heap.size w).alloc (Nat.le_refl _) (.cells #[.string s0, .string s1, .int .i64 a2, .int .i64 a3, .int .i64 a4] 48))
  cases h : rentalB s0 s1 a2 a3 a4
  · simp only [buyL, h]
    go_enter Try.func43, Try.ntmps43
    go_wp2_with fail
    refine (rentalone_is h _ z0 z1 hk.out).mono ?_
    rintro r w' ⟨rfl, rfl⟩
    generalize w.alloc (.cells #[.string s0, .string s1, .int .i64 a2, .int .i64 a3, .int .i64 a4] 48) = w1 at hk hb0 ⊢
    have k1 := hk
    have b1 := hb0
    clear hk hb0
    go_wp2
    go_ret2
    exact ⟨rfl, b1.out⟩
  cases g : inB day 0 100000
  · rw [show buyL s0 s1 a2 a3 a4 day v s = (0, 2) by simp [buyL, h, g]]
    go_enter Try.func43, Try.ntmps43
    go_wp2_with fail
    refine (rentalone_is h _ z0 z1 hk.out).mono ?_
    rintro r w' ⟨rfl, rfl⟩
    generalize w.alloc (.cells #[.string s0, .string s1, .int .i64 a2, .int .i64 a3, .int .i64 a4] 48) = w1 at hk hb0 ⊢
    have k1 := hk
    have b1 := hb0
    clear hk hb0
    go_wp2_with (first | (go_at_call 76; refine (l21Day_any _ _).mono ?_; rintro e w' ⟨rfl, rfl⟩) | (go_at_call 66; refine (l21Money_any _ _).mono ?_; rintro e w' ⟨rfl, rfl⟩) | (go_at_call 80; refine (l21Share_any _ _).mono ?_; rintro e w' ⟨rfl, rfl⟩))
    go_ret2
    exact ⟨rfl, b1.out⟩
  cases g2 : inB v 0 10000000
  · rw [show buyL s0 s1 a2 a3 a4 day v s = (0, 2) by simp [buyL, h, g2]]
    go_enter Try.func43, Try.ntmps43
    go_wp2_with fail
    refine (rentalone_is h _ z0 z1 hk.out).mono ?_
    rintro r w' ⟨rfl, rfl⟩
    generalize w.alloc (.cells #[.string s0, .string s1, .int .i64 a2, .int .i64 a3, .int .i64 a4] 48) = w1 at hk hb0 ⊢
    have k1 := hk
    have b1 := hb0
    clear hk hb0
    go_wp2_with (first | (go_at_call 76; refine (l21Day_any _ _).mono ?_; rintro e w' ⟨rfl, rfl⟩) | (go_at_call 66; refine (l21Money_any _ _).mono ?_; rintro e w' ⟨rfl, rfl⟩) | (go_at_call 80; refine (l21Share_any _ _).mono ?_; rintro e w' ⟨rfl, rfl⟩))
    go_ret2
    exact ⟨rfl, b1.out⟩
  cases g3 : inB s 0 1000
  · rw [show buyL s0 s1 a2 a3 a4 day v s = (0, 2) by simp [buyL, h, g3]]
    go_enter Try.func43, Try.ntmps43
    go_wp2_with fail
    refine (rentalone_is h _ z0 z1 hk.out).mono ?_
    rintro r w' ⟨rfl, rfl⟩
    generalize w.alloc (.cells #[.string s0, .string s1, .int .i64 a2, .int .i64 a3, .int .i64 a4] 48) = w1 at hk hb0 ⊢
    have k1 := hk
    have b1 := hb0
    clear hk hb0
    go_wp2_with (first | (go_at_call 76; refine (l21Day_any _ _).mono ?_; rintro e w' ⟨rfl, rfl⟩) | (go_at_call 66; refine (l21Money_any _ _).mono ?_; rintro e w' ⟨rfl, rfl⟩) | (go_at_call 80; refine (l21Share_any _ _).mono ?_; rintro e w' ⟨rfl, rfl⟩))
    go_ret2
    exact ⟨rfl, b1.out⟩
  · have q := rentalB_t h
    rw [show buyL s0 s1 a2 a3 a4 day v s = (buyP a2 a3 a4 day v s, 0) by simp [buyL, h, g, g2, g3]]
    have dm := dueM_bd q.2.2.1 q.2.2.2.1 g
    have fe := inB_t q.2.2.2.2
    have mm := mul_bd fe.1 fe.2 dm.1 dm.2
    have vv := inB_t g2
    have ss := inB_t g3
    have pp := mul_bd ss.1 ss.2 mm.1 mm.2
    go_enter Try.func43, Try.ntmps43
    go_wp2_with fail
    refine (rentalone_is h _ z0 z1 hk.out).mono ?_
    rintro r w' ⟨rfl, rfl⟩
    generalize w.alloc (.cells #[.string s0, .string s1, .int .i64 a2, .int .i64 a3, .int .i64 a4] 48) = w1 at hk hb0 ⊢
    have k1 := hk
    have b1 := hb0
    clear hk hb0
    go_wp2_with (first | (go_at_call 76; refine (l21Day_any _ _).mono ?_; rintro e w' ⟨rfl, rfl⟩) | (go_at_call 66; refine (l21Money_any _ _).mono ?_; rintro e w' ⟨rfl, rfl⟩) | (go_at_call 80; refine (l21Share_any _ _).mono ?_; rintro e w' ⟨rfl, rfl⟩))
    have hc := bel_cell k1.out k1.out.lt
    have cm : a4 * dueM a2 a3 day * s = s * (a4 * dueM a2 a3 day) := Int.mul_comm _ _
    have CM := Lib.hid cm
    rw [← cm] at pp
    clear cm
    have e1 : IntKind.i64.wrap (a4 * dueM a2 a3 day) = a4 * dueM a2 a3 day := IntWalk.i64_in _ (by omega)
    have e2 : IntKind.i64.wrap (a4 * dueM a2 a3 day * s) = a4 * dueM a2 a3 day * s := IntWalk.i64_in _ (by omega)
    have e3 : IntKind.i64.wrap (v - a4 * dueM a2 a3 day * s / 1000) = v - a4 * dueM a2 a3 day * s / 1000 := IntWalk.i64_in _ (by omega)
    have Q2 := Lib.hid q.2.2.1
    have Q3 := Lib.hid q.2.2.2.1
    have G := Lib.hid g
    clear q g g2 g3
    (refine wp_region_bel w1.heap.size w1 (Below.refl _ _) (by kernel_rfl) (by kernel_rfl) ?_; (repeat (go_big_quiet_step ((first | (go_at_call 77; exact bel_of (Nat.le_refl _) (due_s s0 s1 _ _ a4 _ w.heap.size _ Q2.out Q3.out G.out (k1.out.below (Bel.below _) k1.out.lt))) | (go_at_call 81; exact bel_same (l00Max_any _ _ _)))))); refine wpQuiet_nil ?_; rintro w2 ⟨⟨_, hb2⟩, rfl⟩)
    clear hc e1 e2 e3
    go_wp2
    go_ret2
    exact ⟨ret_pq (by unfold buyP; rw [← CM.out]) rfl, below_more b1.out hb2 (Nat.le_refl _)⟩
end Go.Proofs.Ytgbpkblhokjbbaa
