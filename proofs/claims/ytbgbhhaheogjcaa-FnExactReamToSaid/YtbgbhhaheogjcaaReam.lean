/- ReamTo. -/
import Derived.Test.YtbgbhhaheogjcaaPegs
set_option linter.unusedVariables false
namespace Go.Proofs.Ytbgbhhaheogjcaa
open Go.RowKit

def rmL (t l k hole way : Int) (j : Nat) : Nat → Int × Int
  | 0 => (0, 3)
  | n + 1 => if pegW t k (hole + j) ≤ l then (if way ≤ pegW t k (hole + j) then ((j : Int), 0) else rmL t l k hole way (j + 1) n) else (0, 3)
theorem rm_n {t l k hole way : Int} {j m : Nat} {R : Int × Int} (h : ¬ j < m) (hf : R = rmL t l k hole way j (m - j)) : R = (0, 3) := by
  rw [hf, show m - j = 0 by omega, rmL]
theorem rm_b {t l k hole way : Int} {j m : Nat} {R : Int × Int} (h : j < m) (g : ¬ pegW t k (hole + j) ≤ l) (hf : R = rmL t l k hole way j (m - j)) : R = (0, 3) := by
  rw [hf, show m - j = (m - j - 1) + 1 by omega, rmL, if_neg g]
theorem rm_t {t l k hole way : Int} {j m : Nat} {R : Int × Int} (h : j < m) (g : pegW t k (hole + j) ≤ l) (gw : way ≤ pegW t k (hole + j)) (hf : R = rmL t l k hole way j (m - j)) : R = ((j : Int), 0) := by
  rw [hf, show m - j = (m - j - 1) + 1 by omega, rmL, if_pos g, if_pos gw]
theorem rm_c {t l k hole way : Int} {j m : Nat} {R : Int × Int} (h : j < m) (g : pegW t k (hole + j) ≤ l) (gw : ¬ way ≤ pegW t k (hole + j)) (hf : R = rmL t l k hole way j (m - j)) : R = rmL t l k hole way (j + 1) (m - (j + 1)) := by
  rw [hf, show m - j = (m - (j + 1)) + 1 by omega, rmL, if_pos g, if_neg gw]
theorem ret_rm {r : Int × Int} {b c : Int} (h : r = (b, c)) : Ending.returned (.tuple #[.int .i64 b, .int .i64 c]) = .returned (.tuple #[.int .i64 r.1, .int .i64 r.2]) := by rw [h]
def reamL (hole : Int) (s0 : ByteArray) (a1 a2 a3 way : Int) : Int × Int := if pegB s0 a1 a2 a3 = true then (if (inB hole 20 200 && inB way 0 1000) = true then rmL a1 a2 a3 hole way 0 (201 - hole).toNat else (0, 2)) else (0, 1)
set_option maxHeartbeats 2000000 in
theorem ReamTo_i (hole : Int) (s0 : ByteArray) (a1 a2 a3 way : Int) (w : World) (z0 : s0.size ≤ maxLen) :
    Calls Try.prog 18 #[.int .i64 hole, pegV s0 a1 a2 a3, .int .i64 way] w fun e w' => e = .returned (.tuple #[.int .i64 (reamL hole s0 a1 a2 a3 way).1, .int .i64 (reamL hole s0 a1 a2 a3 way).2]) ∧ Below w.heap.size w w' := by
  have hk := Lib.hid (Blk.new w 27 #[.string s0, .int .i64 a1, .int .i64 a2, .int .i64 a3])
  have hb0 := Lib.hid ((Below.refl w.heap.size w).alloc (Nat.le_refl _) (.cells #[.string s0, .int .i64 a1, .int .i64 a2, .int .i64 a3] 27))
  cases h : pegB s0 a1 a2 a3
  · simp only [reamL, h]
    go_enter Try.func18, Try.ntmps18
    go_wp2_with fail
    refine (pegvalid_is h _ z0).mono ?_
    rintro r w1 ⟨rfl, hb1⟩
    go_wp2
    go_ret2
    exact ⟨rfl, below_more hb0.out hb1 (Nat.le_refl _)⟩
  cases g : inB hole 20 200
  · rw [show reamL hole s0 a1 a2 a3 way = (0, 2) by simp [reamL, h, g]]
    go_enter Try.func18, Try.ntmps18
    go_wp2_with fail
    refine (pegvalid_is h _ z0).mono ?_
    rintro r w1 ⟨rfl, hb1⟩
    go_wp2_with (first | (go_at_call 66; refine (isHole_any _ _).mono ?_; rintro e w' ⟨rfl, rfl⟩) | (go_at_call 67; refine (isWay_any _ _).mono ?_; rintro e w' ⟨rfl, rfl⟩))
    go_ret2
    exact ⟨rfl, below_more hb0.out hb1 (Nat.le_refl _)⟩
  cases g2 : inB way 0 1000
  · rw [show reamL hole s0 a1 a2 a3 way = (0, 2) by simp [reamL, h, g2]]
    go_enter Try.func18, Try.ntmps18
    go_wp2_with fail
    refine (pegvalid_is h _ z0).mono ?_
    rintro r w1 ⟨rfl, hb1⟩
    go_wp2_with (first | (go_at_call 66; refine (isHole_any _ _).mono ?_; rintro e w' ⟨rfl, rfl⟩) | (go_at_call 67; refine (isWay_any _ _).mono ?_; rintro e w' ⟨rfl, rfl⟩))
    go_ret2
    exact ⟨rfl, below_more hb0.out hb1 (Nat.le_refl _)⟩
  · have q := pegB_t h
    have Q1 := Lib.hid q.2.1
    have Q3 := Lib.hid q.2.2.2
    have q1 := inB_t q.2.1
    have q2 := inB_t q.2.2.1
    have q3 := inB_t q.2.2.2
    have gh := inB_t g
    have gw := inB_t g2
    rw [show reamL hole s0 a1 a2 a3 way = rmL a1 a2 a3 hole way 0 (201 - hole).toNat by simp [reamL, h, g, g2]]
    obtain ⟨R, hR⟩ : ∃ R, R = rmL a1 a2 a3 hole way 0 (201 - hole).toNat := ⟨_, rfl⟩
    rw [← hR]
    obtain ⟨m, hm⟩ : ∃ m : Nat, m = (201 - hole).toNat := ⟨_, rfl⟩
    rw [← hm] at hR
    have hm' : (m : Int) = 201 - hole := by omega
    clear hm
    have HM := Lib.hid hm'
    have m1 : hole + m ≤ 201 := by omega
    have m2 : 201 ≤ hole + m := by omega
    clear hm'
    have HR := Lib.hid hR
    clear hR
    go_enter Try.func18, Try.ntmps18
    go_wp2_with fail
    refine (pegvalid_is h _ z0).mono ?_
    rintro r w1 ⟨rfl, hb1⟩
    have k1 := Lib.hid (hk.out.below hb1 hk.out.lt)
    have b1 := Lib.hid (below_more hb0.out hb1 (Nat.le_refl _))
    clear hk hb0 hb1
    go_wp2_with (first | (go_at_call 66; refine (isHole_any _ _).mono ?_; rintro e w' ⟨rfl, rfl⟩) | (go_at_call 67; refine (isWay_any _ _).mono ?_; rintro e w' ⟨rfl, rfl⟩))
    clear h g g2 q
    go_loopw [8] (fun x wr => ∃ j : Nat, j ≤ m ∧ x = .int .i64 (hole + j) ∧ Hid (R = rmL a1 a2 a3 hole way j (m - j)) ∧ Hid (Blk wr w.heap.size 27 #[.string s0, .int .i64 a1, .int .i64 a2, .int .i64 a3]) ∧ Hid (Below w.heap.size w wr)) (fun x _ => (201 - intOf x).toNat)
    case atStart => exact ⟨0, by omega, by simp, HR, k1, b1⟩
    case round =>
      obtain ⟨j, hj, rfl, hf, kr, br⟩ := hrel
      have hc := kr.out.cell
      by_cases hlt : j < m
      · have HH := Lib.hid (inB_mk (n := hole + j) (lo := 20) (hi := 200) (by omega))
        have pb := pegW_bd Q1.out Q3.out HH.out
        by_cases hp : pegW a1 a3 (hole + j) ≤ a2
        · have dx : decide (pegW a1 a3 (hole + j) ≤ a2) = true := by simpa using hp
          by_cases hw : way ≤ pegW a1 a3 (hole + j)
          · have HF := Lib.hid (rm_t hlt hp hw hf.out)
            go_wp2_with fail
            refine (wayIn_i _ _ _ _ _ _ Q1.out Q3.out HH.out).mono ?_
            rintro r w3 ⟨rfl, hb3⟩
            have b3 := Lib.hid (below_more br.out hb3 (Nat.le_refl _))
            clear hb3 hc
            go_wp2
            go_ret2
            exact ⟨by rw [HF.out]; simp; omega, b3.out⟩
          · have HF := Lib.hid (rm_c hlt hp hw hf.out)
            go_wp2_with fail
            refine (wayIn_i _ _ _ _ _ _ Q1.out Q3.out HH.out).mono ?_
            rintro r w3 ⟨rfl, hb3⟩
            have k3 := Lib.hid (kr.out.below hb3 kr.out.lt)
            have b3 := Lib.hid (below_more br.out hb3 (Nat.le_refl _))
            clear hb3 hc
            go_wp2
            go_roundw
            case rel => exact ⟨j + 1, by omega, by go_num, HF, k3, b3⟩
            case measure => simp [intOf]; omega
        · have dx : decide (pegW a1 a3 (hole + j) ≤ a2) = false := by simpa using hp
          have HF := Lib.hid (rm_b hlt hp hf.out)
          go_wp2_with fail
          refine (wayIn_i _ _ _ _ _ _ Q1.out Q3.out HH.out).mono ?_
          rintro r w3 ⟨rfl, hb3⟩
          have b3 := Lib.hid (below_more br.out hb3 (Nat.le_refl _))
          clear hb3 hc
          go_wp2
          go_ret2
          exact ⟨ret_rm HF.out, b3.out⟩
      · have HF := Lib.hid (rm_n hlt hf.out)
        go_wp2
        go_ret2
        exact ⟨ret_rm HF.out, br.out⟩
set_option maxHeartbeats 2000000 in
theorem ReamTo_s (hole : Int) (s0 : ByteArray) (a1 a2 a3 way : Int) (w : World) (z0 : s0.size ≤ maxLen) :
    Calls Try.prog 16 #[.int .i64 hole, pegV s0 a1 a2 a3, .int .i64 way] w fun e w' => e = .returned (.tuple #[.int .i64 (reamL hole s0 a1 a2 a3 way).1, .int .i64 (reamL hole s0 a1 a2 a3 way).2]) ∧ Below w.heap.size w w' := by
  have hk := Lib.hid (Blk.new w 27 #[.string s0, .int .i64 a1, .int .i64 a2, .int .i64 a3])
  have hb0 := Lib.hid ((Below.refl w.heap.size w).alloc (Nat.le_refl _) (.cells #[.string s0, .int .i64 a1, .int .i64 a2, .int .i64 a3] 27))
  cases h : pegB s0 a1 a2 a3
  · simp only [reamL, h]
    go_enter Try.func16, Try.ntmps16
    go_wp2_with fail
    refine (pegone_is h _ z0 hk.out).mono ?_
    rintro r w' ⟨rfl, rfl⟩
    go_wp2
    go_ret2
    exact ⟨rfl, hb0.out⟩
  cases g : inB hole 20 200
  · rw [show reamL hole s0 a1 a2 a3 way = (0, 2) by simp [reamL, h, g]]
    go_enter Try.func16, Try.ntmps16
    go_wp2_with fail
    refine (pegone_is h _ z0 hk.out).mono ?_
    rintro r w' ⟨rfl, rfl⟩
    go_wp2_with (first | (go_at_call 62; refine (l12Hole_any _ _).mono ?_; rintro e w' ⟨rfl, rfl⟩) | (go_at_call 63; refine (l12Way_any _ _).mono ?_; rintro e w' ⟨rfl, rfl⟩))
    go_ret2
    exact ⟨rfl, hb0.out⟩
  cases g2 : inB way 0 1000
  · rw [show reamL hole s0 a1 a2 a3 way = (0, 2) by simp [reamL, h, g2]]
    go_enter Try.func16, Try.ntmps16
    go_wp2_with fail
    refine (pegone_is h _ z0 hk.out).mono ?_
    rintro r w' ⟨rfl, rfl⟩
    go_wp2_with (first | (go_at_call 62; refine (l12Hole_any _ _).mono ?_; rintro e w' ⟨rfl, rfl⟩) | (go_at_call 63; refine (l12Way_any _ _).mono ?_; rintro e w' ⟨rfl, rfl⟩))
    go_ret2
    exact ⟨rfl, hb0.out⟩
  · have q := pegB_t h
    have Q1 := Lib.hid q.2.1
    have Q3 := Lib.hid q.2.2.2
    have q1 := inB_t q.2.1
    have q2 := inB_t q.2.2.1
    have q3 := inB_t q.2.2.2
    have gh := inB_t g
    have gw := inB_t g2
    rw [show reamL hole s0 a1 a2 a3 way = rmL a1 a2 a3 hole way 0 (201 - hole).toNat by simp [reamL, h, g, g2]]
    obtain ⟨R, hR⟩ : ∃ R, R = rmL a1 a2 a3 hole way 0 (201 - hole).toNat := ⟨_, rfl⟩
    rw [← hR]
    obtain ⟨m, hm⟩ : ∃ m : Nat, m = (201 - hole).toNat := ⟨_, rfl⟩
    rw [← hm] at hR
    have hm' : (m : Int) = 201 - hole := by omega
    clear hm
    have m1 : hole + m ≤ 201 := by omega
    have m2 : 201 ≤ hole + m := by omega
    clear hm'
    have HR := Lib.hid hR
    clear hR
    go_enter Try.func16, Try.ntmps16
    go_wp2_with fail
    refine (pegone_is h _ z0 hk.out).mono ?_
    rintro r w' ⟨rfl, rfl⟩
    generalize w.alloc (.cells #[.string s0, .int .i64 a1, .int .i64 a2, .int .i64 a3] 27) = w1 at hk hb0 ⊢
    go_wp2_with (first | (go_at_call 62; refine (l12Hole_any _ _).mono ?_; rintro e w' ⟨rfl, rfl⟩) | (go_at_call 63; refine (l12Way_any _ _).mono ?_; rintro e w' ⟨rfl, rfl⟩))
    clear h g g2 q
    go_loopw [8] (fun x wr => ∃ j : Nat, j ≤ m ∧ x = .int .i64 j ∧ Hid (R = rmL a1 a2 a3 hole way j (m - j)) ∧ Hid (Blk wr w.heap.size 27 #[.string s0, .int .i64 a1, .int .i64 a2, .int .i64 a3]) ∧ Hid (Below w.heap.size w wr)) (fun x _ => (201 - intOf x).toNat)
    case atStart => exact ⟨0, by omega, rfl, HR, hk, hb0⟩
    case round =>
      obtain ⟨j, hj, rfl, hf, kr, br⟩ := hrel
      by_cases hlt : j < m
      · have HH := Lib.hid (inB_mk (n := hole + j) (lo := 20) (hi := 200) (by omega))
        have pb := pegW_bd Q1.out Q3.out HH.out
        by_cases hp : pegW a1 a3 (hole + j) ≤ a2
        · by_cases hw : way ≤ pegW a1 a3 (hole + j)
          · have HF := Lib.hid (rm_t hlt hp hw hf.out)
            go_wp2_with fail
            refine (wayIn_s _ _ _ _ _ _ _ Q1.out Q3.out HH.out kr.out).mono ?_
            rw [if_pos hp]
            rintro r w3 ⟨rfl, hb3⟩
            have b3 := Lib.hid (below_more br.out hb3 (Nat.le_refl _))
            clear hb3
            go_wp2
            go_ret2
            exact ⟨ret_rm HF.out, b3.out⟩
          · have HF := Lib.hid (rm_c hlt hp hw hf.out)
            go_wp2_with fail
            refine (wayIn_s _ _ _ _ _ _ _ Q1.out Q3.out HH.out kr.out).mono ?_
            rw [if_pos hp]
            rintro r w3 ⟨rfl, hb3⟩
            have k3 := Lib.hid (kr.out.below hb3 kr.out.lt)
            have b3 := Lib.hid (below_more br.out hb3 (Nat.le_refl _))
            clear hb3
            go_wp2
            go_roundw
            case rel => exact ⟨j + 1, by omega, by go_num, HF, k3, b3⟩
            case measure => simp [intOf]; omega
        · have HF := Lib.hid (rm_b hlt hp hf.out)
          go_wp2_with fail
          refine (wayIn_s _ _ _ _ _ _ _ Q1.out Q3.out HH.out kr.out).mono ?_
          rw [if_neg (show ¬ pegW a1 a3 (hole + j) ≤ a2 by omega)]
          rintro r w3 ⟨rfl, hb3⟩
          have b3 := Lib.hid (below_more br.out hb3 (Nat.le_refl _))
          clear hb3
          go_wp2
          go_ret2
          exact ⟨ret_rm HF.out, b3.out⟩
      · have HF := Lib.hid (rm_n hlt hf.out)
        go_wp2
        go_ret2
        exact ⟨ret_rm HF.out, br.out⟩
end Go.Proofs.Ytbgbhhaheogjcaa
