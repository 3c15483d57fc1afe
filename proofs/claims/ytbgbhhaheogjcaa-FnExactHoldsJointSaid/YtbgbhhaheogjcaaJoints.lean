/- HoldsJoint. -/
import Derived.Test.YtbgbhhaheogjcaaPots
set_option linter.unusedVariables false
namespace Go.Proofs.Ytbgbhhaheogjcaa
open Go.RowKit

def jointB (p a : Int) : Bool := inB p 0 1000000 && inB a 1 100000
theorem jointB_t {p a : Int} (h : jointB p a = true) : inB p 0 1000000 = true ∧ inB a 1 100000 = true := by simpa [jointB] using h
theorem isJoint_any (p a : Int) (w : World) :
    Calls Try.prog 87 #[.int .i64 p, .int .i64 a] w fun e w' => e = .returned (.bool (jointB p a)) ∧ w = w' := by
  cases h : inB p 0 1000000
  · rw [show jointB p a = false by simp [jointB, h]]
    go_enter Try.func87, Try.ntmps87
    go_wp2_with ((go_at_call 75; refine (within_any _ _ _ _).mono ?_; rintro e w' ⟨rfl, rfl⟩))
    go_ret
    exact ⟨rfl, rfl⟩
  · rw [show jointB p a = inB a 1 100000 by simp [jointB, h]]
    go_enter Try.func87, Try.ntmps87
    go_wp2_with ((go_at_call 75; refine (within_any _ _ _ _).mono ?_; rintro e w' ⟨rfl, rfl⟩))
    go_ret
    exact ⟨rfl, rfl⟩
theorem l14Joint_any (p a : Int) (w : World) :
    Calls Try.prog 85 #[.int .i64 p, .int .i64 a] w fun e w' => e = .returned (.bool (jointB p a)) ∧ w = w' := by
  cases h : inB p 0 1000000
  · rw [show jointB p a = false by simp [jointB, h]]
    go_enter Try.func85, Try.ntmps85
    go_wp2_with ((go_at_call 71; refine (l00In_any _ _ _ _).mono ?_; rintro e w' ⟨rfl, rfl⟩))
    go_ret
    exact ⟨rfl, rfl⟩
  · rw [show jointB p a = inB a 1 100000 by simp [jointB, h]]
    go_enter Try.func85, Try.ntmps85
    go_wp2_with ((go_at_call 71; refine (l00In_any _ _ _ _).mono ?_; rintro e w' ⟨rfl, rfl⟩))
    go_ret
    exact ⟨rfl, rfl⟩
theorem force_bd {s a : Int} (s0 : 0 ≤ s ∧ s ≤ 1000) (h : inB a 1 100000 = true) : 0 ≤ s * a ∧ s * a ≤ 100000000 := by
  have q := inB_t h
  have := mul_bd s0.1 s0.2 (show 0 ≤ a by omega) q.2
  omega
def holdL (d wa he ho p a : Int) : Bool := decide (p ≤ strongL d wa he ho * a / 100)
set_option maxHeartbeats 1000000 in
theorem holds_i (s0 : ByteArray) (a1 a2 a3 a4 p a : Int) (w : World) (h1 : inB a1 1 10000 = true) (h2 : inB a2 1 10000 = true) (h3 : inB a3 20 95 = true) (h4 : inB a4 0 1000 = true) (ha : inB a 1 100000 = true) :
    Calls Try.prog 88 #[potV s0 a1 a2 a3 a4, .int .i64 p, .int .i64 a] w fun e w' => e = .returned (.bool (holdL a1 a2 a3 a4 p a)) ∧ Below w.heap.size w w' := by
  have m := force_bd (strong_bd h1 h2 h3 h4) ha
  have hb0 := Lib.hid ((Below.refl w.heap.size w).alloc (Nat.le_refl _) (.cells #[.string s0, .int .i64 a1, .int .i64 a2, .int .i64 a3, .int .i64 a4] 41))
  go_enter Try.func88, Try.ntmps88
  go_wp2_with fail
  refine (strength_i _ _ _ _ _ _ h1 h2 h3 h4).mono ?_
  rintro r w2 ⟨rfl, hb2⟩
  go_wp2
  go_ret
  exact ⟨rfl, below_more hb0.out hb2 (Nat.le_refl _)⟩
set_option maxHeartbeats 1000000 in
theorem holds_s (s0 : ByteArray) (a1 a2 a3 a4 p a : Int) (N : Nat) (w : World) (h1 : inB a1 1 10000 = true) (h2 : inB a2 1 10000 = true) (h3 : inB a3 20 95 = true) (h4 : inB a4 0 1000 = true) (ha : inB a 1 100000 = true) (hk : Blk w N 41 #[.string s0, .int .i64 a1, .int .i64 a2, .int .i64 a3, .int .i64 a4]) :
    Calls Try.prog 86 #[.pointer (some ⟨N, 0, none⟩), .int .i64 p, .int .i64 a] w fun e w' => e = .returned (.bool (holdL a1 a2 a3 a4 p a)) ∧ Below w.heap.size w w' := by
  have m := force_bd (strong_bd h1 h2 h3 h4) ha
  go_enter Try.func86, Try.ntmps86
  go_wp2_with fail
  refine (strength_s _ _ _ _ _ _ _ h1 h2 h3 h4 hk).mono ?_
  rintro r w2 ⟨rfl, hb2⟩
  go_wp2
  go_ret
  exact ⟨rfl, hb2⟩
def hjL (s0 : ByteArray) (a1 a2 a3 a4 p a : Int) : Bool × Int := if potB s0 a1 a2 a3 a4 = true then (if jointB p a = true then (holdL a1 a2 a3 a4 p a, 0) else (false, 2)) else (false, 1)
set_option maxHeartbeats 2000000 in
theorem HoldsJoint_i (s0 : ByteArray) (a1 a2 a3 a4 p a : Int) (w : World) (z0 : s0.size ≤ maxLen) :
    Calls Try.prog 33 #[potV s0 a1 a2 a3 a4, .int .i64 p, .int .i64 a] w fun e w' => e = .returned (.tuple #[.bool (hjL s0 a1 a2 a3 a4 p a).1, .int .i64 (hjL s0 a1 a2 a3 a4 p a).2]) ∧ Below w.heap.size w w' := by
  have hk := Lib.hid (Blk.new w 41 #[.string s0, .int .i64 a1, .int .i64 a2, .int .i64 a3, .int .i64 a4])
  have hb0 := Lib.hid ((Below.refl w.heap.size w).alloc (Nat.le_refl _) (.cells #[.string s0, .int .i64 a1, .int .i64 a2, .int .i64 a3, .int .i64 a4] 41))
  cases h : potB s0 a1 a2 a3 a4
  · simp only [hjL, h]
    go_enter Try.func33, Try.ntmps33
    go_wp2_with fail
    refine (potvalid_is h _ z0).mono ?_
    rintro r w1 ⟨rfl, hb1⟩
    go_wp2
    go_ret2
    exact ⟨rfl, below_more hb0.out hb1 (Nat.le_refl _)⟩
  cases g : jointB p a
  · rw [show hjL s0 a1 a2 a3 a4 p a = (false, 2) by simp [hjL, h, g]]
    go_enter Try.func33, Try.ntmps33
    go_wp2_with fail
    refine (potvalid_is h _ z0).mono ?_
    rintro r w1 ⟨rfl, hb1⟩
    go_wp2_with ((go_at_call 87; refine (isJoint_any _ _ _).mono ?_; rintro e w' ⟨rfl, rfl⟩))
    go_ret2
    exact ⟨rfl, below_more hb0.out hb1 (Nat.le_refl _)⟩
  · have q := potB_t h
    have qj := jointB_t g
    rw [show hjL s0 a1 a2 a3 a4 p a = (holdL a1 a2 a3 a4 p a, 0) by simp [hjL, h, g]]
    go_enter Try.func33, Try.ntmps33
    go_wp2_with fail
    refine (potvalid_is h _ z0).mono ?_
    rintro r w1 ⟨rfl, hb1⟩
    have k1 := Lib.hid (hk.out.below hb1 hk.out.lt)
    have b1 := Lib.hid (below_more hb0.out hb1 (Nat.le_refl _))
    clear hk hb0 hb1
    have hc := k1.out.cell
    go_wp2_with ((go_at_call 87; refine (isJoint_any _ _ _).mono ?_; rintro e w' ⟨rfl, rfl⟩))
    refine (holds_i _ _ _ _ _ _ _ _ q.2.1 q.2.2.1 q.2.2.2.1 q.2.2.2.2 qj.2).mono ?_
    rintro r w2 ⟨rfl, hb2⟩
    go_wp2
    go_ret2
    exact ⟨rfl, below_more b1.out hb2 (Nat.le_refl _)⟩
set_option maxHeartbeats 2000000 in
theorem HoldsJoint_s (s0 : ByteArray) (a1 a2 a3 a4 p a : Int) (w : World) (z0 : s0.size ≤ maxLen) :
    Calls Try.prog 32 #[potV s0 a1 a2 a3 a4, .int .i64 p, .int .i64 a] w fun e w' => e = .returned (.tuple #[.bool (hjL s0 a1 a2 a3 a4 p a).1, .int .i64 (hjL s0 a1 a2 a3 a4 p a).2]) ∧ Below w.heap.size w w' := by
  have hk := Lib.hid (Blk.new w 41 #[.string s0, .int .i64 a1, .int .i64 a2, .int .i64 a3, .int .i64 a4])
  have hb0 := Lib.hid ((Below.refl w.heap.size w).alloc (Nat.le_refl _) (.cells #[.string s0, .int .i64 a1, .int .i64 a2, .int .i64 a3, .int .i64 a4] 41))
  cases h : potB s0 a1 a2 a3 a4
  · simp only [hjL, h]
    go_enter Try.func32, Try.ntmps32
    go_wp2_with fail
    refine (potone_is h _ z0 hk.out).mono ?_
    rintro r w' ⟨rfl, rfl⟩
    go_wp2
    go_ret2
    exact ⟨rfl, hb0.out⟩
  cases g : jointB p a
  · rw [show hjL s0 a1 a2 a3 a4 p a = (false, 2) by simp [hjL, h, g]]
    go_enter Try.func32, Try.ntmps32
    go_wp2_with fail
    refine (potone_is h _ z0 hk.out).mono ?_
    rintro r w' ⟨rfl, rfl⟩
    go_wp2_with ((go_at_call 85; refine (l14Joint_any _ _ _).mono ?_; rintro e w' ⟨rfl, rfl⟩))
    go_ret2
    exact ⟨rfl, hb0.out⟩
  · have q := potB_t h
    have qj := jointB_t g
    rw [show hjL s0 a1 a2 a3 a4 p a = (holdL a1 a2 a3 a4 p a, 0) by simp [hjL, h, g]]
    go_enter Try.func32, Try.ntmps32
    go_wp2_with fail
    refine (potone_is h _ z0 hk.out).mono ?_
    rintro r w' ⟨rfl, rfl⟩
    go_wp2_with ((go_at_call 85; refine (l14Joint_any _ _ _).mono ?_; rintro e w' ⟨rfl, rfl⟩))
    refine (holds_s _ _ _ _ _ _ _ _ _ q.2.1 q.2.2.1 q.2.2.2.1 q.2.2.2.2 qj.2 hk.out).mono ?_
    rintro r w2 ⟨rfl, hb2⟩
    go_wp2
    go_ret2
    exact ⟨rfl, below_more hb0.out hb2 (Nat.le_refl _)⟩
end Go.Proofs.Ytbgbhhaheogjcaa
