/- Entries: equality, and that the marks are held. -/
import Derived.Test.YtednmmmnkcbpjaaMarkE
set_option linter.unusedVariables false
set_option linter.unusedSimpArgs false
namespace Go.Proofs.Ytednmmmnkcbpjaa
open Go.RowKit

theorem eqEntry_refl (a0 : Int) (s1 s2 : ByteArray) (a3 : Int) (w : World) :
    Calls Try.prog 47 #[entryV a0 s1 s2 a3, entryV a0 s1 s2 a3] w fun e w' => e = .returned (.bool true) ∧ Below w.heap.size w w' := by
  go_enter Try.func47, Try.ntmps47
  go_wp2
  go_ret
  exact ⟨rfl, ((Below.refl _ _).alloc (Nat.le_refl _) _).alloc (by simp) _⟩
set_option maxHeartbeats 1000000 in
theorem eqEntryS_refl (A A' : Option Addr) (c c' n : Nat) (ds : List EntryD) (w : World) (hn : ds.length = n) (h : Rd w w.heap.size 4 A n (ds.flatMap entryF)) (h' : Rd w w.heap.size 4 A' n (ds.flatMap entryF)) (hm : n ≤ 1048576) :
    Calls Try.prog 20 #[.slice A n c, .slice A' n c'] w fun e w' => e = .returned (.bool true) ∧ Below w.heap.size w w' := by
  have HN := Lib.hid hn
  have H := Lib.hid h
  have H' := Lib.hid h'
  clear hn h h'
  go_enter Try.func20, Try.ntmps20
  go_wp2
  go_loopw [5] (fun i wr => ∃ k : Nat, k ≤ n ∧ i = .int .i64 k ∧ Hid (Below w.heap.size w wr)) (fun i _ => n - (intOf i).toNat)
  case atStart => exact ⟨0, Nat.zero_le _, rfl, Lib.hid (Below.refl _ _)⟩
  case round =>
    obtain ⟨k, hk, rfl, hb⟩ := hrel
    by_cases hlt : k < n
    · obtain ⟨x, hx, hxm⟩ := getD_of (l := ds) (i := k) (by rw [HN.out]; exact hlt)
      obtain ⟨b, o, rfl, hbB, hc⟩ := (H.out.below hb.out).at_ entryF_len (by omega)
      obtain ⟨b', o', rfl, hbB', hc'⟩ := (H'.out.below hb.out).at_ entryF_len (by omega)
      have hsz := hb.out.size
      have c0 : ∀ u : Bel wr.heap.size wr, u.val.cell? ⟨b, o + k * 4, none⟩ = some (.int .i64 x.a0) := bel_at (hc k x 0 _ hx rfl) (by omega)
      have c1 : ∀ u : Bel wr.heap.size wr, u.val.cell? ⟨b, o + k * 4 + 1, none⟩ = some (.string x.s1) := bel_at (hc k x 1 _ hx rfl) (by omega)
      have c2 : ∀ u : Bel wr.heap.size wr, u.val.cell? ⟨b, o + k * 4 + 2, none⟩ = some (.string x.s2) := bel_at (hc k x 2 _ hx rfl) (by omega)
      have c3 : ∀ u : Bel wr.heap.size wr, u.val.cell? ⟨b, o + k * 4 + 3, none⟩ = some (.int .i64 x.a3) := bel_at (hc k x 3 _ hx rfl) (by omega)
      have d0 : ∀ u : Bel wr.heap.size wr, u.val.cell? ⟨b', o' + k * 4, none⟩ = some (.int .i64 x.a0) := bel_at (hc' k x 0 _ hx rfl) (by omega)
      have d1 : ∀ u : Bel wr.heap.size wr, u.val.cell? ⟨b', o' + k * 4 + 1, none⟩ = some (.string x.s1) := bel_at (hc' k x 1 _ hx rfl) (by omega)
      have d2 : ∀ u : Bel wr.heap.size wr, u.val.cell? ⟨b', o' + k * 4 + 2, none⟩ = some (.string x.s2) := bel_at (hc' k x 2 _ hx rfl) (by omega)
      have d3 : ∀ u : Bel wr.heap.size wr, u.val.cell? ⟨b', o' + k * 4 + 3, none⟩ = some (.int .i64 x.a3) := bel_at (hc' k x 3 _ hx rfl) (by omega)
      clear hc hc' hx hxm
      have hk0 : (0 : Int) ≤ k := by omega
      have hki : (k : Int) < n := by omega
      have tn : (k : Int).toNat = k := by simp
      go_wp2_with fail
      (refine wp_region_bel wr.heap.size wr (Below.refl _ _) (by kernel_rfl) (by kernel_rfl) ?_; (repeat (go_big_quiet_step ((first | (go_at_call 47; exact bel_of (Nat.le_refl _) (eqEntry_refl _ _ _ _ _)))))); refine wpQuiet_nil ?_; rintro w1 ⟨⟨_, hb1⟩, rfl⟩)
      clear c0 d0 c1 d1 c2 d2 c3 d3 tn
      have b1 := Lib.hid (below_more hb.out hb1 (Nat.le_refl _))
      go_wp2
      go_roundw
      case rel => exact ⟨k + 1, by omega, by go_num, b1⟩
      case measure => simp [intOf]; omega
    · go_wp2
      go_ret
      exact ⟨rfl, hb.out⟩
set_option maxHeartbeats 2000000 in
theorem heldEntryS_any (A : Option Addr) (c n : Nat) (k : Nat) (w : World) (h : Rd w w.heap.size 4 A n ((mkEs k n).flatMap entryF)) (k0 : 0 < k) (k1 : k ≤ 1000) (hn : n ≤ 1048576) :
    Calls Try.prog 26 #[.slice A n c, .int .i64 k] w fun e w' => e = .returned (.int .i64 ((k + 4 * n : Nat) : Int)) ∧ Below w.heap.size w w' := by
  have H := Lib.hid h
  clear h
  go_enter Try.func26, Try.ntmps26
  go_wp2
  go_loopw [5, 1] (fun i kv wr => ∃ (j q : Nat), j ≤ n ∧ q = k + 4 * j ∧ i = .int .i64 j ∧ kv = .int .i64 q ∧ Hid (Below w.heap.size w wr)) (fun i _ _ => n - (intOf i).toNat)
  case atStart => exact ⟨0, k, Nat.zero_le _, rfl, rfl, rfl, Lib.hid (Below.refl _ _)⟩
  case round =>
    obtain ⟨j, q, hj, hq, rfl, rfl, hb⟩ := hrel
    have HQ := Lib.hid hq
    have qb : 0 < q ∧ q ≤ 5000000 := by omega
    clear hq
    by_cases hlt : j < n
    · have M1 := Lib.hid (markText_at q 1 ((q : Int) + 1) (by omega) (by omega) (by omega))
      have M2 := Lib.hid (markText_at q 2 ((q : Int) + 1 + 1) (by omega) (by omega) (by omega))
      obtain ⟨b, o, rfl, hbB, hc⟩ := (H.out.below hb.out).at_ entryF_len (by omega)
      have hg := mkEs_get (k := k) hlt
      have hsz := hb.out.size
      have hbr : b < wr.heap.size := by omega
      have c0 : wr.cell? ⟨b, o + j * 4, none⟩ = some (.int .i64 (q : Int)) := by rw [HQ.out]; exact hc j _ 0 _ hg rfl
      have C1 : Hid (wr.cell? ⟨b, o + j * 4 + 1, none⟩ = some (.string (mtL (q + 1)))) := Lib.hid (by rw [HQ.out]; exact hc j _ 1 _ hg rfl)
      have C2 : Hid (wr.cell? ⟨b, o + j * 4 + 2, none⟩ = some (.string (mtL (q + 2)))) := Lib.hid (by rw [HQ.out]; exact hc j _ 2 _ hg rfl)
      have C3 : Hid (wr.cell? ⟨b, o + j * 4 + 3, none⟩ = some (.int .i64 ((q : Int) + 1 + 1 + 1))) := Lib.hid (by
        rw [show (q : Int) + 1 + 1 + 1 = ((k + 4 * j + 3 : Nat) : Int) by have := HQ.out; omega]; exact hc j _ 3 _ hg rfl)
      clear hc hg
      have hk0 : (0 : Int) ≤ j := by omega
      have hki : (j : Int) < n := by omega
      have tn : (j : Int).toNat = j := by simp
      go_upto_region 7 with fail
      have d1 := bel_at (B := wr.heap.size) C1.out hbr
      (refine wp_region_bel wr.heap.size wr (Below.refl _ _) (by kernel_rfl) (by kernel_rfl) ?_; (repeat (go_big_quiet_step ((first | (go_at_call 48; exact bel_of (Nat.le_refl _) (M1.out _)))))); refine wpQuiet_nil ?_; rintro w1 ⟨⟨_, hb1⟩, rfl⟩)
      have C2 := Lib.hid ((hb1.cell (p := ⟨b, o + j * 4 + 2, none⟩) hbr).trans C2.out)
      have C3 := Lib.hid ((hb1.cell (p := ⟨b, o + j * 4 + 3, none⟩) hbr).trans C3.out)
      have b1 := Lib.hid (below_more hb.out hb1 (Nat.le_refl _))
      have s1 := hb1.size
      clear d1 c0 C1 hb1 M1
      go_upto_region 10 with fail
      have d2 := bel_at (B := w1.heap.size) C2.out (by omega)
      (refine wp_region_bel w1.heap.size w1 (Below.refl _ _) (by kernel_rfl) (by kernel_rfl) ?_; (repeat (go_big_quiet_step ((first | (go_at_call 48; exact bel_of (Nat.le_refl _) (M2.out _)))))); refine wpQuiet_nil ?_; rintro w2 ⟨⟨_, hb2⟩, rfl⟩)
      have c3 := (hb2.cell (p := ⟨b, o + j * 4 + 3, none⟩) (by show b < w1.heap.size; omega)).trans C3.out
      have b2 := Lib.hid (below_more b1.out hb2 (Nat.le_refl _))
      clear d2 C2 C3 hb2 M2 b1
      go_wp2
      go_roundw
      case rel => exact ⟨j + 1, q + 4, by omega, by have := HQ.out; omega, by go_num, by go_num, b2⟩
      case measure => simp [intOf]; omega
    · obtain rfl : j = n := by omega
      go_wp2
      go_ret
      exact ⟨ret_int (by rw [HQ.out]), hb.out⟩
end Go.Proofs.Ytednmmmnkcbpjaa
