/- PaidFor, WorthFrom, BeatsOther. -/
import Derived.Test.YtgbpkblhokjbbaaPolicies
set_option linter.unusedVariables false
namespace Go.Proofs.Ytgbpkblhokjbbaa
open Go.RowKit

theorem ret_pair' {a b c d : Int} (h : a = c) (g : b = d) : Ending.returned (.tuple #[.int .i64 a, .int .i64 b]) = .returned (.tuple #[.int .i64 c, .int .i64 d]) := by rw [h, g]
def paidL (s0 : ByteArray) (a1 a2 a3 a4 d : Int) : Int × Int := if policyB s0 a1 a2 a3 a4 = true then (if inB d 0 10000000 = true then (paidP a2 a3 a4 d, 0) else (0, 2)) else (0, 1)
set_option maxHeartbeats 1000000 in
theorem PaidFor_i (s0 : ByteArray) (a1 a2 a3 a4 d : Int) (w : World) (z0 : s0.size ≤ maxLen) :
    Calls Try.prog 34 #[policyV s0 a1 a2 a3 a4, .int .i64 d] w fun e w' => e = .returned (.tuple #[.int .i64 (paidL s0 a1 a2 a3 a4 d).1, .int .i64 (paidL s0 a1 a2 a3 a4 d).2]) ∧ Below w.heap.size w w' := by
  have hk := Lib.hid (Blk.new w 26 #[.string s0, .int .i64 a1, .int .i64 a2, .int .i64 a3, .int .i64 a4])
  have hb0 := Lib.hid ((Below.refl w.heap.size w).alloc (Nat.le_refl _) (.cells #[.string s0, .int .i64 a1, .int .i64 a2, .int .i64 a3, .int .i64 a4] 26))
  cases h : policyB s0 a1 a2 a3 a4
  · simp only [paidL, h]
    go_enter Try.func34, Try.ntmps34
    go_wp2_with fail
    refine (policyvalid_is h _ z0).mono ?_
    rintro r w1 ⟨rfl, hb1⟩
    go_wp2
    go_ret2
    exact ⟨rfl, below_more hb0.out hb1 (Nat.le_refl _)⟩
  have q := policyB_t h
  cases g : inB d 0 10000000
  · simp only [paidL, h, g, if_true]
    go_enter Try.func34, Try.ntmps34
    go_wp2_with fail
    refine (policyvalid_is h _ z0).mono ?_
    rintro r w1 ⟨rfl, hb1⟩
    go_wp2_with ((go_at_call 68; refine (isMoney_any _ _).mono ?_; rintro e w' ⟨rfl, rfl⟩))
    go_ret2
    exact ⟨rfl, below_more hb0.out hb1 (Nat.le_refl _)⟩
  · simp only [paidL, h, g, if_true]
    have b := inB_t g
    go_enter Try.func34, Try.ntmps34
    go_wp2_with fail
    refine (policyvalid_is h _ z0).mono ?_
    rintro r w1 ⟨rfl, hb1⟩
    have hc := (hk.out.below hb1 hk.out.lt).cell
    go_wp2_with ((go_at_call 68; refine (isMoney_any _ _).mono ?_; rintro e w' ⟨rfl, rfl⟩))
    refine (paid_i _ _ _ _ _ _ _ q.2.2.1 q.2.2.2.1 q.2.2.2.2 b.1 b.2).mono ?_
    rintro r w2 ⟨rfl, hb2⟩
    go_wp2
    go_ret2
    exact ⟨rfl, below_more (below_more hb0.out hb1 (Nat.le_refl _)) hb2 (Nat.le_refl _)⟩
set_option maxHeartbeats 1000000 in
theorem PaidFor_s (s0 : ByteArray) (a1 a2 a3 a4 d : Int) (w : World) (z0 : s0.size ≤ maxLen) :
    Calls Try.prog 33 #[policyV s0 a1 a2 a3 a4, .int .i64 d] w fun e w' => e = .returned (.tuple #[.int .i64 (paidL s0 a1 a2 a3 a4 d).1, .int .i64 (paidL s0 a1 a2 a3 a4 d).2]) ∧ Below w.heap.size w w' := by
  have hk := Lib.hid (Blk.new w 26 #[.string s0, .int .i64 a1, .int .i64 a2, .int .i64 a3, .int .i64 a4])
  have hb0 := Lib.hid ((Below.refl w.heap.size w).alloc (Nat.le_refl _) (.cells #[.string s0, .int .i64 a1, .int .i64 a2, .int .i64 a3, .int .i64 a4] 26))
  cases h : policyB s0 a1 a2 a3 a4
  · simp only [paidL, h]
    go_enter Try.func33, Try.ntmps33
    go_wp2_with fail
    refine (policyone_is h _ z0 hk.out).mono ?_
    rintro r w' ⟨rfl, rfl⟩
    go_wp2
    go_ret2
    exact ⟨rfl, hb0.out⟩
  have q := policyB_t h
  cases g : inB d 0 10000000
  · simp only [paidL, h, g, if_true]
    go_enter Try.func33, Try.ntmps33
    go_wp2_with fail
    refine (policyone_is h _ z0 hk.out).mono ?_
    rintro r w' ⟨rfl, rfl⟩
    go_wp2_with ((go_at_call 66; refine (l21Money_any _ _).mono ?_; rintro e w' ⟨rfl, rfl⟩))
    go_ret2
    exact ⟨rfl, hb0.out⟩
  · simp only [paidL, h, g, if_true]
    have b := inB_t g
    go_enter Try.func33, Try.ntmps33
    go_wp2_with fail
    refine (policyone_is h _ z0 hk.out).mono ?_
    rintro r w' ⟨rfl, rfl⟩
    go_wp2_with ((go_at_call 66; refine (l21Money_any _ _).mono ?_; rintro e w' ⟨rfl, rfl⟩))
    refine (paid_s _ _ _ _ _ _ _ _ q.2.2.1 q.2.2.2.1 q.2.2.2.2 b.1 b.2 hk.out).mono ?_
    rintro r w2 ⟨rfl, hb2⟩
    go_wp2
    go_ret2
    exact ⟨rfl, below_more hb0.out hb2 (Nat.le_refl _)⟩
def wfP (a1 a2 a3 a4 m : Int) : Bool := decide (a1 < paidP a2 a3 a4 m)
def wfL (s0 : ByteArray) (a1 a2 a3 a4 : Int) : Int × Int := if policyB s0 a1 a2 a3 a4 = true then (if paidP a2 a3 a4 10000000 ≤ a1 then (0, 3) else (bs (wfP a1 a2 a3 a4) 0 10000000, 0)) else (0, 1)
theorem wf_hi {a1 a2 a3 a4 lo hi : Int} (h : lo < hi) (g : a1 < paidP a2 a3 a4 ((lo + hi) / 2)) (e : bs (wfP a1 a2 a3 a4) 0 10000000 = bs (wfP a1 a2 a3 a4) lo hi) : bs (wfP a1 a2 a3 a4) 0 10000000 = bs (wfP a1 a2 a3 a4) lo ((lo + hi) / 2) := by
  rw [e, bs_hi h (by simpa [wfP] using g)]
theorem wf_lo {a1 a2 a3 a4 lo hi : Int} (h : lo < hi) (g : ¬ a1 < paidP a2 a3 a4 ((lo + hi) / 2)) (e : bs (wfP a1 a2 a3 a4) 0 10000000 = bs (wfP a1 a2 a3 a4) lo hi) : bs (wfP a1 a2 a3 a4) 0 10000000 = bs (wfP a1 a2 a3 a4) ((lo + hi) / 2 + 1) hi := by
  rw [e, bs_lo h (by simpa [wfP] using g)]
theorem wf_end {a1 a2 a3 a4 lo hi : Int} (h : ¬ lo < hi) (e : bs (wfP a1 a2 a3 a4) 0 10000000 = bs (wfP a1 a2 a3 a4) lo hi) : lo = bs (wfP a1 a2 a3 a4) 0 10000000 := by
  rw [e, bs_end h]
set_option maxHeartbeats 2000000 in
theorem WorthFrom_i (s0 : ByteArray) (a1 a2 a3 a4 : Int) (w : World) (z0 : s0.size ≤ maxLen) :
    Calls Try.prog 46 #[policyV s0 a1 a2 a3 a4] w fun e w' => e = .returned (.tuple #[.int .i64 (wfL s0 a1 a2 a3 a4).1, .int .i64 (wfL s0 a1 a2 a3 a4).2]) ∧ Below w.heap.size w w' := by
  have hk := Lib.hid (Blk.new w 26 #[.string s0, .int .i64 a1, .int .i64 a2, .int .i64 a3, .int .i64 a4])
  have hb0 := Lib.hid ((Below.refl w.heap.size w).alloc (Nat.le_refl _) (.cells #[.string s0, .int .i64 a1, .int .i64 a2, .int .i64 a3, .int .i64 a4] 26))
  cases h : policyB s0 a1 a2 a3 a4
  · simp only [wfL, h]
    go_enter Try.func46, Try.ntmps46
    go_wp2_with fail
    refine (policyvalid_is h _ z0).mono ?_
    rintro r w1 ⟨rfl, hb1⟩
    go_wp2
    go_ret2
    exact ⟨rfl, below_more hb0.out hb1 (Nat.le_refl _)⟩
  have q := policyB_t h
  obtain ⟨_, _, q2, q3, q4⟩ := q
  have Q2 := Lib.hid q2
  have Q3 := Lib.hid q3
  have Q4 := Lib.hid q4
  clear q2 q3 q4
  simp only [wfL, h, if_true]
  by_cases hc : paidP a2 a3 a4 10000000 ≤ a1
  · rw [if_pos hc]
    go_enter Try.func46, Try.ntmps46
    go_wp2_with fail
    refine (policyvalid_is h _ z0).mono ?_
    rintro r w1 ⟨rfl, hb1⟩
    have k1 := Lib.hid (hk.out.below hb1 hk.out.lt)
    have b1 := Lib.hid (below_more hb0.out hb1 (Nat.le_refl _))
    clear hk hb0 hb1
    have hc1 := bel_cell k1.out k1.out.lt
    go_wp2_with fail
    (refine wp_region_bel w1.heap.size w1 (Below.refl _ _) (by kernel_rfl) (by kernel_rfl) ?_; (repeat (go_big_quiet_step ((first | (go_at_call 69; exact bel_of (Nat.le_refl _) (paid_i _ _ _ _ _ _ _ Q2.out Q3.out Q4.out (by omega) (by omega))))))); refine wpQuiet_nil ?_; rintro w2 ⟨⟨_, hb2⟩, rfl⟩)
    clear hc1
    go_wp2
    go_ret2
    exact ⟨rfl, below_more b1.out hb2 (Nat.le_refl _)⟩
  · rw [if_neg hc]
    go_enter Try.func46, Try.ntmps46
    go_wp2_with fail
    refine (policyvalid_is h _ z0).mono ?_
    rintro r w1 ⟨rfl, hb1⟩
    have k1 := Lib.hid (hk.out.below hb1 hk.out.lt)
    have b1 := Lib.hid (below_more hb0.out hb1 (Nat.le_refl _))
    clear hk hb0 hb1
    have hc1 := bel_cell k1.out k1.out.lt
    go_wp2_with fail
    (refine wp_region_bel w1.heap.size w1 (Below.refl _ _) (by kernel_rfl) (by kernel_rfl) ?_; (repeat (go_big_quiet_step ((first | (go_at_call 69; exact bel_of (Nat.le_refl _) (paid_i _ _ _ _ _ _ _ Q2.out Q3.out Q4.out (by omega) (by omega))))))); refine wpQuiet_nil ?_; rintro w2 ⟨⟨_, hb2⟩, rfl⟩)
    clear hc1
    have k2 := Lib.hid (k1.out.below hb2 k1.out.lt)
    have b2 := Lib.hid (below_more b1.out hb2 (Nat.le_refl _))
    clear k1 b1 hb2 h
    go_wp2_with fail
    go_loopw [4, 5] (fun i j wr => ∃ lo hi : Int, 0 ≤ lo ∧ lo ≤ hi ∧ hi ≤ 10000000 ∧ i = .int .i64 lo ∧ j = .int .i64 hi ∧ Hid (bs (wfP a1 a2 a3 a4) 0 10000000 = bs (wfP a1 a2 a3 a4) lo hi) ∧ Hid (Blk wr w.heap.size 26 #[.string s0, .int .i64 a1, .int .i64 a2, .int .i64 a3, .int .i64 a4]) ∧ Hid (Below w.heap.size w wr)) (fun i j _ => (intOf j - intOf i).toNat)
    case atStart => exact ⟨0, 10000000, by omega, by omega, by omega, rfl, rfl, Lib.hid rfl, k2, b2⟩
    case round =>
      obtain ⟨lo, hi, ha, hb, hd, rfl, rfl, hf, kr, br⟩ := hrel
      have hc1 := bel_cell kr.out kr.out.lt
      by_cases hlt : lo < hi
      · by_cases hg : a1 < paidP a2 a3 a4 ((lo + hi) / 2)
        · have HF := Lib.hid (wf_hi hlt hg hf.out)
          go_wp2_with fail
          (refine wp_region_bel wr.heap.size wr (Below.refl _ _) (by kernel_rfl) (by kernel_rfl) ?_; (repeat (go_big_quiet_step ((first | (go_at_call 69; exact bel_of (Nat.le_refl _) (paid_i _ _ _ _ _ _ _ Q2.out Q3.out Q4.out (by omega) (by omega))))))); refine wpQuiet_nil ?_; rintro w3 ⟨⟨_, hb3⟩, rfl⟩)
          clear hc1
          have k3 := Lib.hid (kr.out.below hb3 kr.out.lt)
          have b3 := Lib.hid (below_more br.out hb3 (Nat.le_refl _))
          clear hb3
          go_wp2
          go_roundw
          case rel => exact ⟨lo, (lo + hi) / 2, by omega, by omega, by omega, rfl, rfl, HF, k3, b3⟩
          case measure => simp [intOf]; omega
        · have HF := Lib.hid (wf_lo hlt hg hf.out)
          go_wp2_with fail
          (refine wp_region_bel wr.heap.size wr (Below.refl _ _) (by kernel_rfl) (by kernel_rfl) ?_; (repeat (go_big_quiet_step ((first | (go_at_call 69; exact bel_of (Nat.le_refl _) (paid_i _ _ _ _ _ _ _ Q2.out Q3.out Q4.out (by omega) (by omega))))))); refine wpQuiet_nil ?_; rintro w3 ⟨⟨_, hb3⟩, rfl⟩)
          clear hc1
          have k3 := Lib.hid (kr.out.below hb3 kr.out.lt)
          have b3 := Lib.hid (below_more br.out hb3 (Nat.le_refl _))
          clear hb3
          go_wp2
          go_roundw
          case rel => exact ⟨(lo + hi) / 2 + 1, hi, by omega, by omega, by omega, rfl, rfl, HF, k3, b3⟩
          case measure => simp [intOf]; omega
      · go_wp2
        go_ret2
        exact ⟨ret_pair' (wf_end (by omega) hf.out) rfl, br.out⟩
set_option maxHeartbeats 2000000 in
theorem WorthFrom_s (s0 : ByteArray) (a1 a2 a3 a4 : Int) (w : World) (z0 : s0.size ≤ maxLen) :
    Calls Try.prog 45 #[policyV s0 a1 a2 a3 a4] w fun e w' => e = .returned (.tuple #[.int .i64 (wfL s0 a1 a2 a3 a4).1, .int .i64 (wfL s0 a1 a2 a3 a4).2]) ∧ Below w.heap.size w w' := by
  have hk := Lib.hid (Blk.new w 26 #[.string s0, .int .i64 a1, .int .i64 a2, .int .i64 a3, .int .i64 a4])
  have hb0 := Lib.hid ((Below.refl w.heap.size w).alloc (Nat.le_refl _) (.cells #[.string s0, .int .i64 a1, .int .i64 a2, .int .i64 a3, .int .i64 a4] 26))
  cases h : policyB s0 a1 a2 a3 a4
  · simp only [wfL, h]
    go_enter Try.func45, Try.ntmps45
    go_wp2_with fail
    refine (policyone_is h _ z0 hk.out).mono ?_
    rintro r w' ⟨rfl, rfl⟩
    go_wp2
    go_ret2
    exact ⟨rfl, hb0.out⟩
  have q := policyB_t h
  obtain ⟨_, _, q2, q3, q4⟩ := q
  have Q2 := Lib.hid q2
  have Q3 := Lib.hid q3
  have Q4 := Lib.hid q4
  clear q2 q3 q4
  simp only [wfL, h, if_true]
  by_cases hc : paidP a2 a3 a4 10000000 ≤ a1
  · rw [if_pos hc]
    go_enter Try.func45, Try.ntmps45
    go_wp2_with fail
    refine (policyone_is h _ z0 hk.out).mono ?_
    rintro r w' ⟨rfl, rfl⟩
    generalize w.alloc (.cells #[.string s0, .int .i64 a1, .int .i64 a2, .int .i64 a3, .int .i64 a4] 26) = w1 at hk hb0 ⊢
    have k1 := hk
    have b1 := hb0
    clear hk hb0
    have hc1 := bel_cell k1.out k1.out.lt
    go_wp2_with fail
    (refine wp_region_bel w1.heap.size w1 (Below.refl _ _) (by kernel_rfl) (by kernel_rfl) ?_; (repeat (go_big_quiet_step ((first | (go_at_call 67; exact bel_of (Nat.le_refl _) (paid_s s0 a1 _ _ _ _ w.heap.size _ Q2.out Q3.out Q4.out (by omega) (by omega) (k1.out.below (Bel.below _) k1.out.lt))))))); refine wpQuiet_nil ?_; rintro w2 ⟨⟨_, hb2⟩, rfl⟩)
    clear hc1
    go_wp2
    go_ret2
    exact ⟨rfl, below_more b1.out hb2 (Nat.le_refl _)⟩
  · rw [if_neg hc]
    go_enter Try.func45, Try.ntmps45
    go_wp2_with fail
    refine (policyone_is h _ z0 hk.out).mono ?_
    rintro r w' ⟨rfl, rfl⟩
    generalize w.alloc (.cells #[.string s0, .int .i64 a1, .int .i64 a2, .int .i64 a3, .int .i64 a4] 26) = w1 at hk hb0 ⊢
    have k1 := hk
    have b1 := hb0
    clear hk hb0
    have hc1 := bel_cell k1.out k1.out.lt
    go_wp2_with fail
    (refine wp_region_bel w1.heap.size w1 (Below.refl _ _) (by kernel_rfl) (by kernel_rfl) ?_; (repeat (go_big_quiet_step ((first | (go_at_call 67; exact bel_of (Nat.le_refl _) (paid_s s0 a1 _ _ _ _ w.heap.size _ Q2.out Q3.out Q4.out (by omega) (by omega) (k1.out.below (Bel.below _) k1.out.lt))))))); refine wpQuiet_nil ?_; rintro w2 ⟨⟨_, hb2⟩, rfl⟩)
    clear hc1
    have k2 := Lib.hid (k1.out.below hb2 k1.out.lt)
    have b2 := Lib.hid (below_more b1.out hb2 (Nat.le_refl _))
    clear k1 b1 hb2 h
    go_wp2_with fail
    go_loopw [4, 5] (fun i j wr => ∃ lo hi : Int, 0 ≤ lo ∧ lo ≤ hi ∧ hi ≤ 10000000 ∧ i = .int .i64 lo ∧ j = .int .i64 hi ∧ Hid (bs (wfP a1 a2 a3 a4) 0 10000000 = bs (wfP a1 a2 a3 a4) lo hi) ∧ Hid (Blk wr w.heap.size 26 #[.string s0, .int .i64 a1, .int .i64 a2, .int .i64 a3, .int .i64 a4]) ∧ Hid (Below w.heap.size w wr)) (fun i j _ => (intOf j - intOf i).toNat)
    case atStart => exact ⟨0, 10000000, by omega, by omega, by omega, rfl, rfl, Lib.hid rfl, k2, b2⟩
    case round =>
      obtain ⟨lo, hi, ha, hb, hd, rfl, rfl, hf, kr, br⟩ := hrel
      have hc1 := bel_cell kr.out kr.out.lt
      by_cases hlt : lo < hi
      · by_cases hg : a1 < paidP a2 a3 a4 ((lo + hi) / 2)
        · have HF := Lib.hid (wf_hi hlt hg hf.out)
          go_wp2_with fail
          (refine wp_region_bel wr.heap.size wr (Below.refl _ _) (by kernel_rfl) (by kernel_rfl) ?_; (repeat (go_big_quiet_step ((first | (go_at_call 67; exact bel_of (Nat.le_refl _) (paid_s s0 a1 _ _ _ _ w.heap.size _ Q2.out Q3.out Q4.out (by omega) (by omega) (kr.out.below (Bel.below _) kr.out.lt))))))); refine wpQuiet_nil ?_; rintro w3 ⟨⟨_, hb3⟩, rfl⟩)
          clear hc1
          have k3 := Lib.hid (kr.out.below hb3 kr.out.lt)
          have b3 := Lib.hid (below_more br.out hb3 (Nat.le_refl _))
          clear hb3
          go_wp2
          go_roundw
          case rel => exact ⟨lo, (lo + hi) / 2, by omega, by omega, by omega, rfl, rfl, HF, k3, b3⟩
          case measure => simp [intOf]; omega
        · have HF := Lib.hid (wf_lo hlt hg hf.out)
          go_wp2_with fail
          (refine wp_region_bel wr.heap.size wr (Below.refl _ _) (by kernel_rfl) (by kernel_rfl) ?_; (repeat (go_big_quiet_step ((first | (go_at_call 67; exact bel_of (Nat.le_refl _) (paid_s s0 a1 _ _ _ _ w.heap.size _ Q2.out Q3.out Q4.out (by omega) (by omega) (kr.out.below (Bel.below _) kr.out.lt))))))); refine wpQuiet_nil ?_; rintro w3 ⟨⟨_, hb3⟩, rfl⟩)
          clear hc1
          have k3 := Lib.hid (kr.out.below hb3 kr.out.lt)
          have b3 := Lib.hid (below_more br.out hb3 (Nat.le_refl _))
          clear hb3
          go_wp2
          go_roundw
          case rel => exact ⟨(lo + hi) / 2 + 1, hi, by omega, by omega, by omega, rfl, rfl, HF, k3, b3⟩
          case measure => simp [intOf]; omega
      · go_wp2
        go_ret2
        exact ⟨ret_pair' (wf_end (by omega) hf.out) rfl, br.out⟩
end Go.Proofs.Ytgbpkblhokjbbaa
