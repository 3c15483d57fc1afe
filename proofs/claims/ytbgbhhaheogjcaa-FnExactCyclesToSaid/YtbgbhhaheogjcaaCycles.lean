/- CyclesTo. -/
import Derived.Test.YtbgbhhaheogjcaaModes
set_option linter.unusedVariables false
namespace Go.Proofs.Ytbgbhhaheogjcaa
open Go.RowKit

def ctP (s l g : Int) (k : Int) : Bool := decide (ringN s l k.toNat ≤ g)
def ctR : Option Int → Int × Int
  | some k => (k, 0)
  | none => (0, 3)
def ctL (s0 : ByteArray) (a1 a2 s g : Int) : Int × Int := if modeB s0 a1 a2 = true then (if (inB s 0 1000000 && inB g 0 1000000) = true then ctR (firstN (ctP s a2 g) 0 1001) else (0, 2)) else (0, 1)
theorem ct_t {p : Int → Bool} {k m : Nat} (hk : k < m) (h : p k = true) (hf : firstN p 0 m = firstN p k (m - k)) : ctR (firstN p 0 m) = ((k : Int), 0) := by rw [hf, firstN_t hk h]; rfl
theorem ct_f {p : Int → Bool} {k m : Nat} (hk : k < m) (h : p k = false) (hf : firstN p 0 m = firstN p k (m - k)) : firstN p 0 m = firstN p (k + 1) (m - (k + 1)) := by rw [hf, firstN_f hk h]
theorem ct_n {p : Int → Bool} {k m : Nat} (hk : ¬ k < m) (hf : firstN p 0 m = firstN p k (m - k)) : ctR (firstN p 0 m) = (0, 3) := by rw [hf, show m - k = 0 by omega]; rfl
theorem ret_ct {r : Int × Int} {b c : Int} (h : r = (b, c)) : Ending.returned (.tuple #[.int .i64 b, .int .i64 c]) = .returned (.tuple #[.int .i64 r.1, .int .i64 r.2]) := by rw [h]
set_option maxHeartbeats 2000000 in
theorem CyclesTo_i (s0 : ByteArray) (a1 a2 s g0 : Int) (w : World) (z0 : s0.size ≤ maxLen) :
    Calls Try.prog 24 #[modeV s0 a1 a2, .int .i64 s, .int .i64 g0] w fun e w' => e = .returned (.tuple #[.int .i64 (ctL s0 a1 a2 s g0).1, .int .i64 (ctL s0 a1 a2 s g0).2]) ∧ Below w.heap.size w w' := by
  have hk := Lib.hid (Blk.new w 34 #[.string s0, .int .i64 a1, .int .i64 a2])
  have hb0 := Lib.hid ((Below.refl w.heap.size w).alloc (Nat.le_refl _) (.cells #[.string s0, .int .i64 a1, .int .i64 a2] 34))
  cases h : modeB s0 a1 a2
  · simp only [ctL, h]
    go_enter Try.func24, Try.ntmps24
    go_wp2_with fail
    refine (modevalid_is h _ z0).mono ?_
    rintro r w1 ⟨rfl, hb1⟩
    go_wp2
    go_ret2
    exact ⟨rfl, below_more hb0.out hb1 (Nat.le_refl _)⟩
  cases g : inB s 0 1000000
  · rw [show ctL s0 a1 a2 s g0 = (0, 2) by simp [ctL, h, g]]
    go_enter Try.func24, Try.ntmps24
    go_wp2_with fail
    refine (modevalid_is h _ z0).mono ?_
    rintro r w1 ⟨rfl, hb1⟩
    go_wp2_with (first | (go_at_call 74; refine (isStrength_any _ _).mono ?_; rintro e w' ⟨rfl, rfl⟩))
    go_ret2
    exact ⟨rfl, below_more hb0.out hb1 (Nat.le_refl _)⟩
  cases g2 : inB g0 0 1000000
  · rw [show ctL s0 a1 a2 s g0 = (0, 2) by simp [ctL, h, g2]]
    go_enter Try.func24, Try.ntmps24
    go_wp2_with fail
    refine (modevalid_is h _ z0).mono ?_
    rintro r w1 ⟨rfl, hb1⟩
    go_wp2_with (first | (go_at_call 74; refine (isStrength_any _ _).mono ?_; rintro e w' ⟨rfl, rfl⟩))
    go_ret2
    exact ⟨rfl, below_more hb0.out hb1 (Nat.le_refl _)⟩
  · have q := modeB_t h
    have q2 := inB_t q.2.2
    have Q2 := Lib.hid q.2.2
    have gs := inB_t g
    have gc := inB_t g2
    rw [show ctL s0 a1 a2 s g0 = ctR (firstN (ctP s a2 g0) 0 1001) by simp [ctL, h, g, g2]]
    go_enter Try.func24, Try.ntmps24
    go_wp2_with fail
    refine (modevalid_is h _ z0).mono ?_
    rintro r w1 ⟨rfl, hb1⟩
    have k1 := Lib.hid (hk.out.below hb1 hk.out.lt)
    have b1 := Lib.hid (below_more hb0.out hb1 (Nat.le_refl _))
    clear hk hb0 hb1
    go_wp2_with (first | (go_at_call 74; refine (isStrength_any _ _).mono ?_; rintro e w' ⟨rfl, rfl⟩))
    clear h g g2 q
    go_loopw [1, 8] (fun x i wr => ∃ k : Nat, k ≤ 1001 ∧ x = .int .i64 (ringN s a2 k) ∧ i = .int .i64 k ∧ Hid (firstN (ctP s a2 g0) 0 1001 = firstN (ctP s a2 g0) k (1001 - k)) ∧ Hid (Blk wr w.heap.size 34 #[.string s0, .int .i64 a1, .int .i64 a2]) ∧ Hid (Below w.heap.size w wr)) (fun _ i _ => 1001 - (intOf i).toNat)
    case atStart => exact ⟨0, by omega, rfl, rfl, Lib.hid rfl, k1, b1⟩
    case round =>
      obtain ⟨k, hk, rfl, rfl, hf, kr, br⟩ := hrel
      have hc := kr.out.cell
      have rb := ringN_bd gs.1 gs.2 q2.1 q2.2 k
      by_cases hlt : k < 1001
      · by_cases hp : ringN s a2 k ≤ g0
        · have HF := Lib.hid (ct_t hlt (show ctP s a2 g0 k = true by simpa [ctP] using hp) hf.out)
          go_wp2
          go_ret2
          exact ⟨ret_ct HF.out, br.out⟩
        · have HF := Lib.hid (ct_f hlt (show ctP s a2 g0 k = false by simpa [ctP] using hp) hf.out)
          go_wp2_with fail
          refine (fall_i _ _ _ _ _ Q2.out rb.1 rb.2).mono ?_
          rintro r w3 ⟨rfl, hb3⟩
          have k3 := Lib.hid (kr.out.below hb3 kr.out.lt)
          have b3 := Lib.hid (below_more br.out hb3 (Nat.le_refl _))
          clear hb3 hc
          go_wp2
          go_roundw
          case rel => exact ⟨k + 1, by omega, rfl, by go_num, HF, k3, b3⟩
          case measure => simp [intOf]; omega
      · have HF := Lib.hid (ct_n hlt hf.out)
        go_wp2
        go_ret2
        exact ⟨ret_ct HF.out, br.out⟩
set_option maxHeartbeats 2000000 in
theorem CyclesTo_s (s0 : ByteArray) (a1 a2 s g0 : Int) (w : World) (z0 : s0.size ≤ maxLen) :
    Calls Try.prog 23 #[modeV s0 a1 a2, .int .i64 s, .int .i64 g0] w fun e w' => e = .returned (.tuple #[.int .i64 (ctL s0 a1 a2 s g0).1, .int .i64 (ctL s0 a1 a2 s g0).2]) ∧ Below w.heap.size w w' := by
  have hk := Lib.hid (Blk.new w 34 #[.string s0, .int .i64 a1, .int .i64 a2])
  have hb0 := Lib.hid ((Below.refl w.heap.size w).alloc (Nat.le_refl _) (.cells #[.string s0, .int .i64 a1, .int .i64 a2] 34))
  cases h : modeB s0 a1 a2
  · simp only [ctL, h]
    go_enter Try.func23, Try.ntmps23
    go_wp2_with fail
    refine (modeone_is h _ z0 hk.out).mono ?_
    rintro r w' ⟨rfl, rfl⟩
    go_wp2
    go_ret2
    exact ⟨rfl, hb0.out⟩
  cases g : inB s 0 1000000
  · rw [show ctL s0 a1 a2 s g0 = (0, 2) by simp [ctL, h, g]]
    go_enter Try.func23, Try.ntmps23
    go_wp2_with fail
    refine (modeone_is h _ z0 hk.out).mono ?_
    rintro r w' ⟨rfl, rfl⟩
    go_wp2_with (first | (go_at_call 70; refine (l16Strength_any _ _).mono ?_; rintro e w' ⟨rfl, rfl⟩))
    go_ret2
    exact ⟨rfl, hb0.out⟩
  cases g2 : inB g0 0 1000000
  · rw [show ctL s0 a1 a2 s g0 = (0, 2) by simp [ctL, h, g2]]
    go_enter Try.func23, Try.ntmps23
    go_wp2_with fail
    refine (modeone_is h _ z0 hk.out).mono ?_
    rintro r w' ⟨rfl, rfl⟩
    go_wp2_with (first | (go_at_call 70; refine (l16Strength_any _ _).mono ?_; rintro e w' ⟨rfl, rfl⟩))
    go_ret2
    exact ⟨rfl, hb0.out⟩
  · have q := modeB_t h
    have q2 := inB_t q.2.2
    have Q2 := Lib.hid q.2.2
    have gs := inB_t g
    have gc := inB_t g2
    rw [show ctL s0 a1 a2 s g0 = ctR (firstN (ctP s a2 g0) 0 1001) by simp [ctL, h, g, g2]]
    go_enter Try.func23, Try.ntmps23
    go_wp2_with fail
    refine (modeone_is h _ z0 hk.out).mono ?_
    rintro r w' ⟨rfl, rfl⟩
    generalize w.alloc (.cells #[.string s0, .int .i64 a1, .int .i64 a2] 34) = w1 at hk hb0 ⊢
    have k1 := hk
    have b1 := hb0
    clear hk hb0
    go_wp2_with (first | (go_at_call 70; refine (l16Strength_any _ _).mono ?_; rintro e w' ⟨rfl, rfl⟩))
    clear h g g2 q
    go_loopw [1, 8] (fun x i wr => ∃ k : Nat, k ≤ 1001 ∧ x = .int .i64 (ringN s a2 k) ∧ i = .int .i64 k ∧ Hid (firstN (ctP s a2 g0) 0 1001 = firstN (ctP s a2 g0) k (1001 - k)) ∧ Hid (Blk wr w.heap.size 34 #[.string s0, .int .i64 a1, .int .i64 a2]) ∧ Hid (Below w.heap.size w wr)) (fun _ i _ => 1001 - (intOf i).toNat)
    case atStart => exact ⟨0, by omega, rfl, rfl, Lib.hid rfl, k1, b1⟩
    case round =>
      obtain ⟨k, hk, rfl, rfl, hf, kr, br⟩ := hrel
      have hc := kr.out.cell
      have rb := ringN_bd gs.1 gs.2 q2.1 q2.2 k
      by_cases hlt : k < 1001
      · by_cases hp : ringN s a2 k ≤ g0
        · have HF := Lib.hid (ct_t hlt (show ctP s a2 g0 k = true by simpa [ctP] using hp) hf.out)
          go_wp2
          go_ret2
          exact ⟨ret_ct HF.out, br.out⟩
        · have HF := Lib.hid (ct_f hlt (show ctP s a2 g0 k = false by simpa [ctP] using hp) hf.out)
          go_wp2_with fail
          refine (fall_s _ _ _ Q2.out rb.1 rb.2).mono ?_
          rintro r w' ⟨rfl, rfl⟩
          have k3 := kr
          have b3 := br
          clear hc
          go_wp2
          go_roundw
          case rel => exact ⟨k + 1, by omega, rfl, by go_num, HF, k3, b3⟩
          case measure => simp [intOf]; omega
      · have HF := Lib.hid (ct_n hlt hf.out)
        go_wp2
        go_ret2
        exact ⟨ret_ct HF.out, br.out⟩
end Go.Proofs.Ytbgbhhaheogjcaa
