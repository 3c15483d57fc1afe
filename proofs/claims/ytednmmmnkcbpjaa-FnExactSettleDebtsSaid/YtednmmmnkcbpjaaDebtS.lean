/- Slices of strings and of entries: sizes, copies, equality, marks. -/
import Derived.Test.YtednmmmnkcbpjaaInts
import Derived.Test.YtednmmmnkcbpjaaDebtP
set_option linter.unusedVariables false
set_option linter.unusedSimpArgs false
namespace Go.Proofs.Ytednmmmnkcbpjaa
open Go.RowKit

theorem infoStr : (Try.prog.info? 9).map (fun i => (i.zero, i.size, i.bytes)) = some (some (.string ByteArray.empty), 1, 16) := by kernel_rfl
/-- where the strings lie -/
theorem Rd.strs {w : World} {B n : Nat} {A : Option Addr} {ss : List ByteArray} (h : Rd w B 1 A n (sv ss)) (hn : 0 < n) : ∃ b o, A = some ⟨b, o, none⟩ ∧ b < B ∧ ∀ i s, ss[i]? = some s → w.cell? ⟨b, o + i, none⟩ = some (.string s) := by
  obtain ⟨b, o, e, hl, hc⟩ := h.2 hn
  exact ⟨b, o, e, hl, fun i z hz => hc i _ (sv_get hz)⟩
theorem Rd.lenS {w : World} {B n : Nat} {A : Option Addr} {ss : List ByteArray} (h : Rd w B 1 A n (sv ss)) : ss.length = n := by have := h.1; rw [sv_len] at this; omega
theorem fillS {w : World} {g n k : Nat} {t : TypeId} {ss : List ByteArray} {s : ByteArray} (h : Fill w g t n k (sv ss)) (hz : ss[k]? = some s) (hk : k < n) : Fill (w.setCell ⟨g, k, none⟩ (.string s)) g t n (k + 1) (sv ss) := h.step (sv_get hz) hk
set_option maxHeartbeats 1000000 in
theorem szStringS_any (A : Option Addr) (c n : Nat) (ss : List ByteArray) (lf : Int) (w : World) (h : Rd w w.heap.size 1 A n (sv ss)) (hz : ∀ s ∈ ss, s.size ≤ maxLen) (l0 : 0 ≤ lf) (l1 : lf ≤ 1048576) (hm : n ≤ maxLen) :
    Calls Try.prog 15 #[.slice A n c, .int .i64 lf] w (SzE n lf w) := by
  unfold maxLen at hm hz
  have HN := Lib.hid h.lenS
  have HZ := Lib.hid hz
  have H := Lib.hid h
  clear h hz
  by_cases h0 : lf < n
  · go_enter Try.func15, Try.ntmps15
    go_wp2
    go_ret
    exact ⟨-1, .inl rfl, rfl, Below.refl _ _⟩
  go_enter Try.func15, Try.ntmps15
  go_wp2
  go_loop [1, 5] (fun l i => ∃ (k : Nat) (r : Int), k ≤ n ∧ 0 ≤ r ∧ r + n ≤ lf ∧ i = .int .i64 k ∧ l = .int .i64 r) (fun _ i => n - (intOf i).toNat)
  case atStart => exact ⟨0, lf - n, by omega, by omega, by omega, rfl, rfl⟩
  case round =>
    obtain ⟨k, r, hk, r0, r1, rfl, rfl⟩ := hrel
    by_cases hlt : k < n
    · obtain ⟨s, hs, hsm⟩ := getD_of (l := ss) (i := k) (by rw [HN.out]; exact hlt)
      have zx := HZ.out s hsm
      obtain ⟨b, o, rfl, hbB, hc⟩ := H.out.strs (by omega)
      have c0 : w.cell? ⟨b, o + k, none⟩ = some (.string s) := hc k s hs
      clear hc hs hsm
      by_cases hq : (s.size : Int) ≤ r
      · go_wp2
        go_round
        case rel => exact ⟨k + 1, r - (s.size : Int), by omega, by omega, by omega, by go_num, rfl⟩
        case measure => simp [intOf]; omega
      · go_wp2
        go_ret
        exact ⟨-1, .inl rfl, rfl, Below.refl _ _⟩
    · go_wp2
      go_ret
      exact ⟨r, .inr ⟨r0, r1⟩, rfl, Below.refl _ _⟩
set_option maxHeartbeats 1000000 in
theorem toStringS_any (A : Option Addr) (c n : Nat) (ss : List ByteArray) (w : World) (h : Rd w w.heap.size 1 A n (sv ss)) (hm : n ≤ 1048576) :
    Calls Try.prog 17 #[.slice A n c] w fun e w' => e = .returned (.slice (some ⟨w.heap.size, 0, none⟩) n n) ∧ Blk w' w.heap.size 9 (sv ss).toArray ∧ Below w.heap.size w w' := by
  obtain ⟨cs, hcs, _, hmk⟩ := make_run (P := Try.prog) Try.underlying35 infoStr n (by omega) (by unfold maxLen; omega)
  have HN := Lib.hid h.lenS
  have H := Lib.hid h
  have F0 := Lib.hid (Fill.start (xs := sv ss) (Blk.new w 9 cs) (hcs.trans (Nat.mul_one n)))
  have b0 := Lib.hid ((Below.refl w.heap.size w).alloc (Nat.le_refl _) (.cells cs 9))
  clear h hcs
  go_enter Try.func17, Try.ntmps17
  go_wp2
  clear hmk
  generalize w.alloc (.cells cs 9) = w1 at F0 b0 ⊢
  go_loopw [4] (fun i wr => ∃ k : Nat, k ≤ n ∧ i = .int .i64 k ∧ Hid (Fill wr w.heap.size 9 n k (sv ss)) ∧ Hid (Below w.heap.size w wr)) (fun i _ => n - (intOf i).toNat)
  case atStart => exact ⟨0, Nat.zero_le _, rfl, F0, b0⟩
  case round =>
    obtain ⟨k, hk, rfl, F, hb⟩ := hrel
    by_cases hlt : k < n
    · obtain ⟨z, hz, hzm⟩ := getD_of (l := ss) (i := k) (by rw [HN.out]; exact hlt)
      have HX := Lib.hid hz
      have hsz := F.out.lt
      obtain ⟨b, o, rfl, hbB, hc⟩ := (H.out.below hb.out).strs (by omega)
      have c0 : wr.cell? ⟨b, o + k, none⟩ = some (.string z) := hc k z hz
      clear hc hz hzm
      obtain ⟨⟨v0, m0⟩, f0⟩ := F.out.room (j := k) hlt
      have F4 := Lib.hid (fillS F.out HX.out hlt)
      have b4 := Lib.hid (hb.out.setCell (p := ⟨w.heap.size, k, none⟩) (Nat.le_refl _) (.string z))
      clear F hb
      go_wp2
      go_roundw
      case rel => exact ⟨k + 1, by omega, by go_num, F4, b4⟩
      case measure => simp [intOf]; omega
    · obtain rfl : k = n := by omega
      go_wp2
      go_ret
      exact ⟨rfl, F.out.done (by rw [sv_len, HN.out]), hb.out⟩
set_option maxHeartbeats 1000000 in
theorem eqStringS_refl (A A' : Option Addr) (c c' n : Nat) (ss : List ByteArray) (w : World) (h : Rd w w.heap.size 1 A n (sv ss)) (h' : Rd w w.heap.size 1 A' n (sv ss)) (hm : n ≤ 9223372036854775807) :
    Calls Try.prog 21 #[.slice A n c, .slice A' n c'] w fun e w' => e = .returned (.bool true) ∧ Below w.heap.size w w' := by
  have HN := Lib.hid h.lenS
  have H := Lib.hid h
  have H' := Lib.hid h'
  clear h h'
  go_enter Try.func21, Try.ntmps21
  go_wp2
  go_loopw [5] (fun i wr => ∃ k : Nat, k ≤ n ∧ i = .int .i64 k ∧ Hid (Below w.heap.size w wr)) (fun i _ => n - (intOf i).toNat)
  case atStart => exact ⟨0, Nat.zero_le _, rfl, Lib.hid (Below.refl _ _)⟩
  case round =>
    obtain ⟨k, hk, rfl, hb⟩ := hrel
    by_cases hlt : k < n
    · obtain ⟨z, hz, hzm⟩ := getD_of (l := ss) (i := k) (by rw [HN.out]; exact hlt)
      obtain ⟨b, o, rfl, hbB, hc⟩ := (H.out.below hb.out).strs (by omega)
      obtain ⟨b', o', rfl, hbB', hc'⟩ := (H'.out.below hb.out).strs (by omega)
      have hsz := hb.out.size
      have c0 : ∀ u : Bel wr.heap.size wr, u.val.cell? ⟨b, o + k, none⟩ = some (.string z) := bel_at (hc k z hz) (by omega)
      have d0 : ∀ u : Bel wr.heap.size wr, u.val.cell? ⟨b', o' + k, none⟩ = some (.string z) := bel_at (hc' k z hz) (by omega)
      clear hc hc' hz hzm
      have hk0 : (0 : Int) ≤ k := by omega
      have hki : (k : Int) < n := by omega
      have tn : (k : Int).toNat = k := by simp
      go_wp2_with fail
      (refine wp_region_bel wr.heap.size wr (Below.refl _ _) (by kernel_rfl) (by kernel_rfl) ?_; (repeat (go_big_quiet_step ((first | fail)))); refine wpQuiet_nil ?_; rintro w1 ⟨⟨_, hb1⟩, rfl⟩)
      clear c0 d0 tn
      have b1 := Lib.hid (below_more hb.out hb1 (Nat.le_refl _))
      go_wp2
      go_roundw
      case rel => exact ⟨k + 1, by omega, by go_num, b1⟩
      case measure => simp [intOf]; omega
    · go_wp2
      go_ret
      exact ⟨rfl, hb.out⟩
end Go.Proofs.Ytednmmmnkcbpjaa
