/- HoursFor, MarginFor: the greatest number of hours (the greatest margin) at which a quote's price is not above a price. -/
import Derived.Test.YtgbpkblhokjbbaaQuoteFns
set_option linter.unusedVariables false
namespace Go.Proofs.Ytgbpkblhokjbbaa
open Go.RowKit

def hfP (a2 a3 a4 p : Int) (j : Int) : Bool := decide (qPrice (1000 - j) a2 a3 a4 ≤ p)
def mfP (a1 a2 a3 p : Int) (j : Int) : Bool := decide (qPrice a1 a2 a3 (5000 - j) ≤ p)
def downR (top : Int) : Option Int → Int × Int
  | some j => (top - j, 0)
  | none => (0, 3)
def hfL (s0 : ByteArray) (a1 a2 a3 a4 p : Int) : Int × Int := if quoteB s0 a1 a2 a3 a4 = true then (if inB p 0 1000000000000 = true then downR 1000 (firstN (hfP a2 a3 a4 p) 0 1001) else (0, 2)) else (0, 1)
def mfL (s0 : ByteArray) (a1 a2 a3 a4 p : Int) : Int × Int := if quoteB s0 a1 a2 a3 a4 = true then (if inB p 0 1000000000000 = true then downR 5000 (firstN (mfP a1 a2 a3 p) 0 5001) else (0, 2)) else (0, 1)
theorem down_t {top : Int} {q : Int → Bool} {k m : Nat} (hk : k < m) (h : q k = true) (hf : firstN q 0 m = firstN q k (m - k)) : downR top (firstN q 0 m) = (top - k, 0) := by
  rw [hf, firstN_t hk h]; rfl
theorem down_f {q : Int → Bool} {k m : Nat} (hk : k < m) (h : q k = false) (hf : firstN q 0 m = firstN q k (m - k)) : firstN q 0 m = firstN q (k + 1) (m - (k + 1)) := by
  rw [hf, firstN_f hk h]
theorem down_n {top : Int} {q : Int → Bool} {k m : Nat} (hk : ¬ k < m) (hf : firstN q 0 m = firstN q k (m - k)) : downR top (firstN q 0 m) = (0, 3) := by
  rw [hf, show m - k = 0 by omega]; rfl
theorem ret_dn {r : Int × Int} {b c : Int} (h : r = (b, c)) : Ending.returned (.tuple #[.int .i64 b, .int .i64 c]) = .returned (.tuple #[.int .i64 r.1, .int .i64 r.2]) := by rw [h]
/-- how far a counter in a cell has to go -/
def cellLeft (w : World) (N i : Nat) : Nat := match w.cell? ⟨N, i, none⟩ with
  | some v => (intOf v + 1).toNat
  | none => 0
theorem cellLeft_of {w : World} {N i : Nat} {t : TypeId} {cs : Array Value} {n : Int} (h : Blk w N t cs) (g : cs[i]? = some (.int .i64 n)) : cellLeft w N i = (n + 1).toNat := by
  unfold cellLeft; rw [h.cell i, g]; rfl
def askC (s0 : ByteArray) (a1 a2 a3 a4 p : Int) : Int := if quoteB s0 a1 a2 a3 a4 = true then (if inB p 0 1000000000000 = true then 0 else 2) else 1
set_option maxHeartbeats 1000000 in
theorem l24Ask_is {s0 : ByteArray} {a1 a2 a3 a4 p r : Int} {N : Nat} (hr : askC s0 a1 a2 a3 a4 p = r) (w : World) (z0 : s0.size ≤ maxLen) (hk : Blk w N 34 #[.string s0, .int .i64 a1, .int .i64 a2, .int .i64 a3, .int .i64 a4]) :
    Calls Try.prog 70 #[.pointer (some ⟨N, 0, none⟩), .int .i64 p] w fun e w' => e = .returned (.int .i64 r) ∧ w = w' := by
  subst hr
  cases h : quoteB s0 a1 a2 a3 a4
  · rw [show askC s0 a1 a2 a3 a4 p = 1 by simp [askC, h]]
    go_enter Try.func70, Try.ntmps70
    go_wp2_with fail
    refine (quoteone_is h _ z0 hk).mono ?_
    rintro r w' ⟨rfl, rfl⟩
    go_wp2
    go_ret
    exact ⟨rfl, rfl⟩
  cases g : inB p 0 1000000000000
  · rw [show askC s0 a1 a2 a3 a4 p = 2 by simp [askC, h, g]]
    go_enter Try.func70, Try.ntmps70
    go_wp2_with fail
    refine (quoteone_is h _ z0 hk).mono ?_
    rintro r w' ⟨rfl, rfl⟩
    go_wp2_with ((go_at_call 85; refine (l00In_any _ _ _ _).mono ?_; rintro e w' ⟨rfl, rfl⟩))
    go_ret
    exact ⟨rfl, rfl⟩
  · rw [show askC s0 a1 a2 a3 a4 p = 0 by simp [askC, h, g]]
    go_enter Try.func70, Try.ntmps70
    go_wp2_with fail
    refine (quoteone_is h _ z0 hk).mono ?_
    rintro r w' ⟨rfl, rfl⟩
    go_wp2_with ((go_at_call 85; refine (l00In_any _ _ _ _).mono ?_; rintro e w' ⟨rfl, rfl⟩))
    go_ret
    exact ⟨rfl, rfl⟩
set_option maxHeartbeats 4000000 in
theorem HoursFor_i (s0 : ByteArray) (a1 a2 a3 a4 p : Int) (w : World) (z0 : s0.size ≤ maxLen) :
    Calls Try.prog 36 #[quoteV s0 a1 a2 a3 a4, .int .i64 p] w fun e w' => e = .returned (.tuple #[.int .i64 (hfL s0 a1 a2 a3 a4 p).1, .int .i64 (hfL s0 a1 a2 a3 a4 p).2]) ∧ Below w.heap.size w w' := by
  have hk := Lib.hid (Blk.new w 34 #[.string s0, .int .i64 a1, .int .i64 a2, .int .i64 a3, .int .i64 a4])
  have hb0 := Lib.hid ((Below.refl w.heap.size w).alloc (Nat.le_refl _) (.cells #[.string s0, .int .i64 a1, .int .i64 a2, .int .i64 a3, .int .i64 a4] 34))
  cases h : quoteB s0 a1 a2 a3 a4
  · simp only [hfL, h]
    go_enter Try.func36, Try.ntmps36
    go_wp2_with fail
    refine (quotevalid_is h _ z0).mono ?_
    rintro r w1 ⟨rfl, hb1⟩
    go_wp2
    go_ret2
    exact ⟨rfl, below_more hb0.out hb1 (Nat.le_refl _)⟩
  cases g : inB p 0 1000000000000
  · rw [show hfL s0 a1 a2 a3 a4 p = (0, 2) by simp [hfL, h, g]]
    go_enter Try.func36, Try.ntmps36
    go_wp2_with fail
    refine (quotevalid_is h _ z0).mono ?_
    rintro r w1 ⟨rfl, hb1⟩
    go_wp2_with ((go_at_call 71; refine (within_any _ _ _ _).mono ?_; rintro e w' ⟨rfl, rfl⟩))
    go_ret2
    exact ⟨rfl, below_more hb0.out hb1 (Nat.le_refl _)⟩
  · have q := quoteB_t h
    obtain ⟨_, q1, q2, q3, q4⟩ := q
    have Q1 := Lib.hid q1
    have Q2 := Lib.hid q2
    have Q3 := Lib.hid q3
    have Q4 := Lib.hid q4
    clear q1 q2 q3 q4
    rw [show hfL s0 a1 a2 a3 a4 p = downR 1000 (firstN (hfP a2 a3 a4 p) 0 1001) by simp [hfL, h, g]]
    go_enter Try.func36, Try.ntmps36
    go_wp2_with fail
    refine (quotevalid_is h _ z0).mono ?_
    rintro r w1 ⟨rfl, hb1⟩
    have k1 := Lib.hid (hk.out.below hb1 hk.out.lt)
    have b1 := Lib.hid (below_more hb0.out hb1 (Nat.le_refl _))
    clear hk hb0 hb1
    have hc := k1.out.cell
    have hf := k1.out.frozen
    go_wp2_with ((go_at_call 71; refine (within_any _ _ _ _).mono ?_; rintro e w' ⟨rfl, rfl⟩))
    clear h g hc hf
    have k2 := Lib.hid (k1.out.set_ 1 (.int .i64 1000))
    have b2 := Lib.hid (b1.out.setCell (p := ⟨w.heap.size, 1, none⟩) (Nat.le_refl _) (.int .i64 1000))
    clear k1 b1
    go_loopw [4, 5] (fun _ _ wr => ∃ k : Nat, k ≤ 1001 ∧ Hid (firstN (hfP a2 a3 a4 p) 0 1001 = firstN (hfP a2 a3 a4 p) k (1001 - k)) ∧ Hid (Blk wr w.heap.size 34 #[.string s0, .int .i64 (1000 - (k : Int)), .int .i64 a2, .int .i64 a3, .int .i64 a4]) ∧ Hid (Below w.heap.size w wr)) (fun _ _ wr => cellLeft wr w.heap.size 1)
    case atStart => exact ⟨0, by omega, Lib.hid rfl, k2, b2⟩
    case round =>
      obtain ⟨k, hk, hf, kr, br⟩ := hrel
      have hc := kr.out.cell
      have hz := kr.out.frozen
      by_cases hlt : k < 1001
      · cases hp : hfP a2 a3 a4 p k
        · have HF := Lib.hid (down_f hlt hp hf.out)
          have hp' : ¬ qPrice (1000 - (k : Int)) a2 a3 a4 ≤ p := by simpa [hfP] using hp
          clear hp
          go_wp2_with fail
          refine (qprice_i _ _ _ _ _ _ (inB_mk (by omega)) Q2.out Q3.out Q4.out).mono ?_
          rintro r w3 ⟨rfl, hb3⟩
          have k3 := Lib.hid (kr.out.below hb3 kr.out.lt)
          have b3 := Lib.hid (below_more br.out hb3 (Nat.le_refl _))
          clear hb3 hc hz
          have hc := k3.out.cell
          have hz := k3.out.frozen
          go_wp2
          go_roundw
          case rel =>
            refine ⟨k + 1, by omega, HF, Lib.hid ?_, Lib.hid ?_⟩
            · rw [show (1000 : Int) - ((k + 1 : Nat) : Int) = 1000 - (k : Int) - 1 by omega]
              exact k3.out.set_ 1 _
            · exact b3.out.setCell (p := ⟨w.heap.size, 1, none⟩) (by simp) _
          case measure =>
            rw [cellLeft_of kr.out rfl, cellLeft_of (k3.out.set_ 1 (.int .i64 (1000 - (k : Int) - 1))) rfl]
            omega
        · have HF := Lib.hid (down_t (top := 1000) hlt hp hf.out)
          have hp' : qPrice (1000 - (k : Int)) a2 a3 a4 ≤ p := by simpa [hfP] using hp
          clear hp
          go_wp2_with fail
          refine (qprice_i _ _ _ _ _ _ (inB_mk (by omega)) Q2.out Q3.out Q4.out).mono ?_
          rintro r w3 ⟨rfl, hb3⟩
          have k3 := Lib.hid (kr.out.below hb3 kr.out.lt)
          have b3 := Lib.hid (below_more br.out hb3 (Nat.le_refl _))
          clear hb3 hc hz
          have hc := k3.out.cell
          go_wp2
          go_ret2
          exact ⟨ret_dn HF.out, b3.out⟩
      · have HF := Lib.hid (down_n (top := 1000) hlt hf.out)
        go_wp2
        go_ret2
        exact ⟨ret_dn HF.out, br.out⟩
set_option maxHeartbeats 4000000 in
theorem MarginFor_i (s0 : ByteArray) (a1 a2 a3 a4 p : Int) (w : World) (z0 : s0.size ≤ maxLen) :
    Calls Try.prog 38 #[quoteV s0 a1 a2 a3 a4, .int .i64 p] w fun e w' => e = .returned (.tuple #[.int .i64 (mfL s0 a1 a2 a3 a4 p).1, .int .i64 (mfL s0 a1 a2 a3 a4 p).2]) ∧ Below w.heap.size w w' := by
  have hk := Lib.hid (Blk.new w 34 #[.string s0, .int .i64 a1, .int .i64 a2, .int .i64 a3, .int .i64 a4])
  have hb0 := Lib.hid ((Below.refl w.heap.size w).alloc (Nat.le_refl _) (.cells #[.string s0, .int .i64 a1, .int .i64 a2, .int .i64 a3, .int .i64 a4] 34))
  cases h : quoteB s0 a1 a2 a3 a4
  · simp only [mfL, h]
    go_enter Try.func38, Try.ntmps38
    go_wp2_with fail
    refine (quotevalid_is h _ z0).mono ?_
    rintro r w1 ⟨rfl, hb1⟩
    go_wp2
    go_ret2
    exact ⟨rfl, below_more hb0.out hb1 (Nat.le_refl _)⟩
  cases g : inB p 0 1000000000000
  · rw [show mfL s0 a1 a2 a3 a4 p = (0, 2) by simp [mfL, h, g]]
    go_enter Try.func38, Try.ntmps38
    go_wp2_with fail
    refine (quotevalid_is h _ z0).mono ?_
    rintro r w1 ⟨rfl, hb1⟩
    go_wp2_with ((go_at_call 71; refine (within_any _ _ _ _).mono ?_; rintro e w' ⟨rfl, rfl⟩))
    go_ret2
    exact ⟨rfl, below_more hb0.out hb1 (Nat.le_refl _)⟩
  · have q := quoteB_t h
    obtain ⟨_, q1, q2, q3, q4⟩ := q
    have Q1 := Lib.hid q1
    have Q2 := Lib.hid q2
    have Q3 := Lib.hid q3
    have Q4 := Lib.hid q4
    clear q1 q2 q3 q4
    rw [show mfL s0 a1 a2 a3 a4 p = downR 5000 (firstN (mfP a1 a2 a3 p) 0 5001) by simp [mfL, h, g]]
    go_enter Try.func38, Try.ntmps38
    go_wp2_with fail
    refine (quotevalid_is h _ z0).mono ?_
    rintro r w1 ⟨rfl, hb1⟩
    have k1 := Lib.hid (hk.out.below hb1 hk.out.lt)
    have b1 := Lib.hid (below_more hb0.out hb1 (Nat.le_refl _))
    clear hk hb0 hb1
    have hc := k1.out.cell
    have hf := k1.out.frozen
    go_wp2_with ((go_at_call 71; refine (within_any _ _ _ _).mono ?_; rintro e w' ⟨rfl, rfl⟩))
    clear h g hc hf
    have k2 := Lib.hid (k1.out.set_ 4 (.int .i64 5000))
    have b2 := Lib.hid (b1.out.setCell (p := ⟨w.heap.size, 4, none⟩) (Nat.le_refl _) (.int .i64 5000))
    clear k1 b1
    go_loopw [4, 5] (fun _ _ wr => ∃ k : Nat, k ≤ 5001 ∧ Hid (firstN (mfP a1 a2 a3 p) 0 5001 = firstN (mfP a1 a2 a3 p) k (5001 - k)) ∧ Hid (Blk wr w.heap.size 34 #[.string s0, .int .i64 a1, .int .i64 a2, .int .i64 a3, .int .i64 (5000 - (k : Int))]) ∧ Hid (Below w.heap.size w wr)) (fun _ _ wr => cellLeft wr w.heap.size 4)
    case atStart => exact ⟨0, by omega, Lib.hid rfl, k2, b2⟩
    case round =>
      obtain ⟨k, hk, hf, kr, br⟩ := hrel
      have hc := kr.out.cell
      have hz := kr.out.frozen
      by_cases hlt : k < 5001
      · cases hp : mfP a1 a2 a3 p k
        · have HF := Lib.hid (down_f hlt hp hf.out)
          have hp' : ¬ qPrice a1 a2 a3 (5000 - (k : Int)) ≤ p := by simpa [mfP] using hp
          clear hp
          go_wp2_with fail
          refine (qprice_i _ _ _ _ _ _ Q1.out Q2.out Q3.out (inB_mk (by omega))).mono ?_
          rintro r w3 ⟨rfl, hb3⟩
          have k3 := Lib.hid (kr.out.below hb3 kr.out.lt)
          have b3 := Lib.hid (below_more br.out hb3 (Nat.le_refl _))
          clear hb3 hc hz
          have hc := k3.out.cell
          have hz := k3.out.frozen
          go_wp2
          go_roundw
          case rel =>
            refine ⟨k + 1, by omega, HF, Lib.hid ?_, Lib.hid ?_⟩
            · rw [show (5000 : Int) - ((k + 1 : Nat) : Int) = 5000 - (k : Int) - 1 by omega]
              exact k3.out.set_ 4 _
            · exact b3.out.setCell (p := ⟨w.heap.size, 4, none⟩) (by simp) _
          case measure =>
            rw [cellLeft_of kr.out rfl, cellLeft_of (k3.out.set_ 4 (.int .i64 (5000 - (k : Int) - 1))) rfl]
            omega
        · have HF := Lib.hid (down_t (top := 5000) hlt hp hf.out)
          have hp' : qPrice a1 a2 a3 (5000 - (k : Int)) ≤ p := by simpa [mfP] using hp
          clear hp
          go_wp2_with fail
          refine (qprice_i _ _ _ _ _ _ Q1.out Q2.out Q3.out (inB_mk (by omega))).mono ?_
          rintro r w3 ⟨rfl, hb3⟩
          have k3 := Lib.hid (kr.out.below hb3 kr.out.lt)
          have b3 := Lib.hid (below_more br.out hb3 (Nat.le_refl _))
          clear hb3 hc hz
          have hc := k3.out.cell
          go_wp2
          go_ret2
          exact ⟨ret_dn HF.out, b3.out⟩
      · have HF := Lib.hid (down_n (top := 5000) hlt hf.out)
        go_wp2
        go_ret2
        exact ⟨ret_dn HF.out, br.out⟩
set_option maxHeartbeats 4000000 in
theorem HoursFor_s (s0 : ByteArray) (a1 a2 a3 a4 p : Int) (w : World) (z0 : s0.size ≤ maxLen) :
    Calls Try.prog 35 #[quoteV s0 a1 a2 a3 a4, .int .i64 p] w fun e w' => e = .returned (.tuple #[.int .i64 (hfL s0 a1 a2 a3 a4 p).1, .int .i64 (hfL s0 a1 a2 a3 a4 p).2]) ∧ Below w.heap.size w w' := by
  have hk := Lib.hid (Blk.new w 34 #[.string s0, .int .i64 a1, .int .i64 a2, .int .i64 a3, .int .i64 a4])
  have hb0 := Lib.hid ((Below.refl w.heap.size w).alloc (Nat.le_refl _) (.cells #[.string s0, .int .i64 a1, .int .i64 a2, .int .i64 a3, .int .i64 a4] 34))
  cases h : quoteB s0 a1 a2 a3 a4
  · simp only [hfL, h]
    go_enter Try.func35, Try.ntmps35
    go_wp2_with fail
    refine (l24Ask_is (r := 1) (by simp [askC, h]) _ z0 hk.out).mono ?_
    rintro r w' ⟨rfl, rfl⟩
    go_wp2
    go_ret2
    exact ⟨rfl, hb0.out⟩
  cases g : inB p 0 1000000000000
  · rw [show hfL s0 a1 a2 a3 a4 p = (0, 2) by simp [hfL, h, g]]
    go_enter Try.func35, Try.ntmps35
    go_wp2_with fail
    refine (l24Ask_is (r := 2) (by simp [askC, h, g]) _ z0 hk.out).mono ?_
    rintro r w' ⟨rfl, rfl⟩
    go_wp2
    go_ret2
    exact ⟨rfl, hb0.out⟩
  · have q := quoteB_t h
    obtain ⟨_, q1, q2, q3, q4⟩ := q
    have Q1 := Lib.hid q1
    have Q2 := Lib.hid q2
    have Q3 := Lib.hid q3
    have Q4 := Lib.hid q4
    clear q1 q2 q3 q4
    rw [show hfL s0 a1 a2 a3 a4 p = downR 1000 (firstN (hfP a2 a3 a4 p) 0 1001) by simp [hfL, h, g]]
    go_enter Try.func35, Try.ntmps35
    go_wp2_with fail
    refine (l24Ask_is (r := 0) (by simp [askC, h, g]) _ z0 hk.out).mono ?_
    rintro r w' ⟨rfl, rfl⟩
    have k2 := Lib.hid (Blk.new (w.alloc (.cells #[.string s0, .int .i64 a1, .int .i64 a2, .int .i64 a3, .int .i64 a4] 34)) 34 #[.string s0, .int .i64 1000, .int .i64 a2, .int .i64 a3, .int .i64 a4])
    have b2 := Lib.hid (hb0.out.alloc (by simp) (.cells #[.string s0, .int .i64 1000, .int .i64 a2, .int .i64 a3, .int .i64 a4] 34))
    go_wp2_with fail
    clear h g hk hb0
    go_loopw [4, 5] (fun _ _ wr => ∃ k : Nat, k ≤ 1001 ∧ Hid (firstN (hfP a2 a3 a4 p) 0 1001 = firstN (hfP a2 a3 a4 p) k (1001 - k)) ∧ Hid (Blk wr (w.heap.size + 1) 34 #[.string s0, .int .i64 (1000 - (k : Int)), .int .i64 a2, .int .i64 a3, .int .i64 a4]) ∧ Hid (Below w.heap.size w wr)) (fun _ _ wr => cellLeft wr (w.heap.size + 1) 1)
    case atStart => exact ⟨0, by omega, Lib.hid rfl, Lib.hid (by simpa using k2.out), b2⟩
    case round =>
      obtain ⟨k, hk, hf, kr, br⟩ := hrel
      have hc := kr.out.cell
      have hz := kr.out.frozen
      by_cases hlt : k < 1001
      · cases hp : hfP a2 a3 a4 p k
        · have HF := Lib.hid (down_f hlt hp hf.out)
          have hp' : ¬ qPrice (1000 - (k : Int)) a2 a3 a4 ≤ p := by simpa [hfP] using hp
          clear hp
          go_wp2_with fail
          refine (qprice_s s0 _ _ _ _ _ _ (inB_mk (by omega)) Q2.out Q3.out Q4.out kr.out).mono ?_
          rintro r w3 ⟨rfl, hb3⟩
          have k3 := Lib.hid (kr.out.below hb3 kr.out.lt)
          have b3 := Lib.hid (below_more br.out hb3 (Nat.le_refl _))
          clear hb3 hc hz
          have hc := k3.out.cell
          have hz := k3.out.frozen
          go_wp2
          go_roundw
          case rel =>
            refine ⟨k + 1, by omega, HF, Lib.hid ?_, Lib.hid ?_⟩
            · rw [show (1000 : Int) - ((k + 1 : Nat) : Int) = 1000 - (k : Int) - 1 by omega]
              exact k3.out.set_ 1 _
            · exact b3.out.setCell (p := ⟨w.heap.size + 1, 1, none⟩) (by simp) _
          case measure =>
            rw [cellLeft_of kr.out rfl, cellLeft_of (k3.out.set_ 1 (.int .i64 (1000 - (k : Int) - 1))) rfl]
            omega
        · have HF := Lib.hid (down_t (top := 1000) hlt hp hf.out)
          have hp' : qPrice (1000 - (k : Int)) a2 a3 a4 ≤ p := by simpa [hfP] using hp
          clear hp
          go_wp2_with fail
          refine (qprice_s s0 _ _ _ _ _ _ (inB_mk (by omega)) Q2.out Q3.out Q4.out kr.out).mono ?_
          rintro r w3 ⟨rfl, hb3⟩
          have k3 := Lib.hid (kr.out.below hb3 kr.out.lt)
          have b3 := Lib.hid (below_more br.out hb3 (Nat.le_refl _))
          clear hb3 hc hz
          have hc := k3.out.cell
          go_wp2
          go_ret2
          exact ⟨ret_dn HF.out, b3.out⟩
      · have HF := Lib.hid (down_n (top := 1000) hlt hf.out)
        go_wp2
        go_ret2
        exact ⟨ret_dn HF.out, br.out⟩
set_option maxHeartbeats 4000000 in
theorem MarginFor_s (s0 : ByteArray) (a1 a2 a3 a4 p : Int) (w : World) (z0 : s0.size ≤ maxLen) :
    Calls Try.prog 37 #[quoteV s0 a1 a2 a3 a4, .int .i64 p] w fun e w' => e = .returned (.tuple #[.int .i64 (mfL s0 a1 a2 a3 a4 p).1, .int .i64 (mfL s0 a1 a2 a3 a4 p).2]) ∧ Below w.heap.size w w' := by
  have hk := Lib.hid (Blk.new w 34 #[.string s0, .int .i64 a1, .int .i64 a2, .int .i64 a3, .int .i64 a4])
  have hb0 := Lib.hid ((Below.refl w.heap.size w).alloc (Nat.le_refl _) (.cells #[.string s0, .int .i64 a1, .int .i64 a2, .int .i64 a3, .int .i64 a4] 34))
  cases h : quoteB s0 a1 a2 a3 a4
  · simp only [mfL, h]
    go_enter Try.func37, Try.ntmps37
    go_wp2_with fail
    refine (l24Ask_is (r := 1) (by simp [askC, h]) _ z0 hk.out).mono ?_
    rintro r w' ⟨rfl, rfl⟩
    go_wp2
    go_ret2
    exact ⟨rfl, hb0.out⟩
  cases g : inB p 0 1000000000000
  · rw [show mfL s0 a1 a2 a3 a4 p = (0, 2) by simp [mfL, h, g]]
    go_enter Try.func37, Try.ntmps37
    go_wp2_with fail
    refine (l24Ask_is (r := 2) (by simp [askC, h, g]) _ z0 hk.out).mono ?_
    rintro r w' ⟨rfl, rfl⟩
    go_wp2
    go_ret2
    exact ⟨rfl, hb0.out⟩
  · have q := quoteB_t h
    obtain ⟨_, q1, q2, q3, q4⟩ := q
    have Q1 := Lib.hid q1
    have Q2 := Lib.hid q2
    have Q3 := Lib.hid q3
    have Q4 := Lib.hid q4
    clear q1 q2 q3 q4
    rw [show mfL s0 a1 a2 a3 a4 p = downR 5000 (firstN (mfP a1 a2 a3 p) 0 5001) by simp [mfL, h, g]]
    go_enter Try.func37, Try.ntmps37
    go_wp2_with fail
    refine (l24Ask_is (r := 0) (by simp [askC, h, g]) _ z0 hk.out).mono ?_
    rintro r w' ⟨rfl, rfl⟩
    have k2 := Lib.hid (Blk.new (w.alloc (.cells #[.string s0, .int .i64 a1, .int .i64 a2, .int .i64 a3, .int .i64 a4] 34)) 34 #[.string s0, .int .i64 a1, .int .i64 a2, .int .i64 a3, .int .i64 5000])
    have b2 := Lib.hid (hb0.out.alloc (by simp) (.cells #[.string s0, .int .i64 a1, .int .i64 a2, .int .i64 a3, .int .i64 5000] 34))
    go_wp2_with fail
    clear h g hk hb0
    go_loopw [4, 5] (fun _ _ wr => ∃ k : Nat, k ≤ 5001 ∧ Hid (firstN (mfP a1 a2 a3 p) 0 5001 = firstN (mfP a1 a2 a3 p) k (5001 - k)) ∧ Hid (Blk wr (w.heap.size + 1) 34 #[.string s0, .int .i64 a1, .int .i64 a2, .int .i64 a3, .int .i64 (5000 - (k : Int))]) ∧ Hid (Below w.heap.size w wr)) (fun _ _ wr => cellLeft wr (w.heap.size + 1) 4)
    case atStart => exact ⟨0, by omega, Lib.hid rfl, Lib.hid (by simpa using k2.out), b2⟩
    case round =>
      obtain ⟨k, hk, hf, kr, br⟩ := hrel
      have hc := kr.out.cell
      have hz := kr.out.frozen
      by_cases hlt : k < 5001
      · cases hp : mfP a1 a2 a3 p k
        · have HF := Lib.hid (down_f hlt hp hf.out)
          have hp' : ¬ qPrice a1 a2 a3 (5000 - (k : Int)) ≤ p := by simpa [mfP] using hp
          clear hp
          go_wp2_with fail
          refine (qprice_s s0 _ _ _ _ _ _ Q1.out Q2.out Q3.out (inB_mk (by omega)) kr.out).mono ?_
          rintro r w3 ⟨rfl, hb3⟩
          have k3 := Lib.hid (kr.out.below hb3 kr.out.lt)
          have b3 := Lib.hid (below_more br.out hb3 (Nat.le_refl _))
          clear hb3 hc hz
          have hc := k3.out.cell
          have hz := k3.out.frozen
          go_wp2
          go_roundw
          case rel =>
            refine ⟨k + 1, by omega, HF, Lib.hid ?_, Lib.hid ?_⟩
            · rw [show (5000 : Int) - ((k + 1 : Nat) : Int) = 5000 - (k : Int) - 1 by omega]
              exact k3.out.set_ 4 _
            · exact b3.out.setCell (p := ⟨w.heap.size + 1, 4, none⟩) (by simp) _
          case measure =>
            rw [cellLeft_of kr.out rfl, cellLeft_of (k3.out.set_ 4 (.int .i64 (5000 - (k : Int) - 1))) rfl]
            omega
        · have HF := Lib.hid (down_t (top := 5000) hlt hp hf.out)
          have hp' : qPrice a1 a2 a3 (5000 - (k : Int)) ≤ p := by simpa [mfP] using hp
          clear hp
          go_wp2_with fail
          refine (qprice_s s0 _ _ _ _ _ _ Q1.out Q2.out Q3.out (inB_mk (by omega)) kr.out).mono ?_
          rintro r w3 ⟨rfl, hb3⟩
          have k3 := Lib.hid (kr.out.below hb3 kr.out.lt)
          have b3 := Lib.hid (below_more br.out hb3 (Nat.le_refl _))
          clear hb3 hc hz
          have hc := k3.out.cell
          go_wp2
          go_ret2
          exact ⟨ret_dn HF.out, b3.out⟩
      · have HF := Lib.hid (down_n (top := 5000) hlt hf.out)
        go_wp2
        go_ret2
        exact ⟨ret_dn HF.out, br.out⟩
end Go.Proofs.Ytgbpkblhokjbbaa
