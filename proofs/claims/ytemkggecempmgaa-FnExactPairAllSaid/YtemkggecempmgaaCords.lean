/- Strings: conversions, validity, slices of them. -/
import Derived.Test.YtemkggecempmgaaNames
import Derived.Test.YtemkggecempmgaaNum
import Derived.Test.YtemkggecempmgaaRd
set_option linter.unusedVariables false
namespace Go.Proofs.Ytemkggecempmgaa
open Go.RowKit

abbrev cordV (a0 : Int) (a1 : Int) (a2 : Int) (a3 : Int) : Value := .agg #[.int .i64 a0, .int .i64 a1, .int .i64 a2, .int .i64 a3]
abbrev cordC (a0 : Int) (a1 : Int) (a2 : Int) (a3 : Int) : Array Value := #[.int .i64 a0, .int .i64 a1, .int .i64 a2, .int .i64 a3]
def cordB (a0 : Int) (a1 : Int) (a2 : Int) (a3 : Int) : Bool := inB a0 1 10000 && (inB a1 1 500 && (inB a2 1 10000 && (inB a3 1 500000)))
theorem cordB_t {a0 : Int} {a1 : Int} {a2 : Int} {a3 : Int} (h : cordB a0 a1 a2 a3 = true) : inB a0 1 10000 = true ∧ inB a1 1 500 = true ∧ inB a2 1 10000 = true ∧ inB a3 1 500000 = true := by
  simpa [cordB, Bool.and_eq_true] using h
theorem toCord_any (a0 : Int) (a1 : Int) (a2 : Int) (a3 : Int) (w : World) :
    Calls Try.prog 61 #[cordV a0 a1 a2 a3] w fun e w' => e = .returned (cordV a0 a1 a2 a3) ∧ Below w.heap.size w w' := by
  go_enter Try.func61, Try.ntmps61
  go_wp2
  refine bodyPost_ret (v := cordV a0 a1 a2 a3) (by simp [results, Try.results61, go_sem]) rfl ⟨rfl, ?_⟩
  exact (((Below.refl _ _).alloc (Nat.le_refl _) _).alloc (by simp) _).alloc (by simp; omega) _
set_option maxHeartbeats 1000000 in
theorem cordvalid_any (a0 : Int) (a1 : Int) (a2 : Int) (a3 : Int) (w : World)  :
    Calls Try.prog 83 #[cordV a0 a1 a2 a3] w fun e w' => e = .returned (.bool (cordB a0 a1 a2 a3)) ∧ Below w.heap.size w w' := by
  cases h0 : inB a0 1 10000
  · rw [show cordB a0 a1 a2 a3 = false by simp [cordB, h0]]
    go_enter Try.func83, Try.ntmps83
    go_wp2_with (first | (go_at_call 66; refine (within_any _ _ _ _).mono ?_; rintro e w' ⟨rfl, rfl⟩))
    go_ret
    exact ⟨rfl, (Below.refl _ _).alloc (Nat.le_refl _) _⟩
  cases h1 : inB a1 1 500
  · rw [show cordB a0 a1 a2 a3 = false by simp [cordB, h1]]
    go_enter Try.func83, Try.ntmps83
    go_wp2_with (first | (go_at_call 66; refine (within_any _ _ _ _).mono ?_; rintro e w' ⟨rfl, rfl⟩))
    go_ret
    exact ⟨rfl, (Below.refl _ _).alloc (Nat.le_refl _) _⟩
  cases h2 : inB a2 1 10000
  · rw [show cordB a0 a1 a2 a3 = false by simp [cordB, h2]]
    go_enter Try.func83, Try.ntmps83
    go_wp2_with (first | (go_at_call 66; refine (within_any _ _ _ _).mono ?_; rintro e w' ⟨rfl, rfl⟩))
    go_ret
    exact ⟨rfl, (Below.refl _ _).alloc (Nat.le_refl _) _⟩
  cases h3 : inB a3 1 500000
  · rw [show cordB a0 a1 a2 a3 = false by simp [cordB, h3]]
    go_enter Try.func83, Try.ntmps83
    go_wp2_with (first | (go_at_call 66; refine (within_any _ _ _ _).mono ?_; rintro e w' ⟨rfl, rfl⟩))
    go_ret
    exact ⟨rfl, (Below.refl _ _).alloc (Nat.le_refl _) _⟩
  rw [show cordB a0 a1 a2 a3 = true by simp [cordB, h0, h1, h2, h3]]
  go_enter Try.func83, Try.ntmps83
  go_wp2_with (first | (go_at_call 66; refine (within_any _ _ _ _).mono ?_; rintro e w' ⟨rfl, rfl⟩))
  go_ret
  exact ⟨rfl, (Below.refl _ _).alloc (Nat.le_refl _) _⟩
theorem cordvalid_is {a0 : Int} {a1 : Int} {a2 : Int} {a3 : Int} {b : Bool} (h : cordB a0 a1 a2 a3 = b) (w : World)  :
    Calls Try.prog 83 #[cordV a0 a1 a2 a3] w fun e w' => e = .returned (.bool b) ∧ Below w.heap.size w w' := by
  rw [← h]; exact cordvalid_any _ _ _ _ w 
set_option maxHeartbeats 1000000 in
theorem cordone_any (a0 : Int) (a1 : Int) (a2 : Int) (a3 : Int) (N : Nat) (w : World)  (hk : Blk w N 39 #[.int .i64 a0, .int .i64 a1, .int .i64 a2, .int .i64 a3]) :
    Calls Try.prog 53 #[.pointer (some ⟨N, 0, none⟩)] w fun e w' => e = .returned (.bool (cordB a0 a1 a2 a3)) ∧ w = w' := by
  have hc := hk.cell
  cases h0 : inB a0 1 10000
  · rw [show cordB a0 a1 a2 a3 = false by simp [cordB, h0]]
    go_enter Try.func53, Try.ntmps53
    go_wp2_with (first | (go_at_call 74; refine (l00In_any _ _ _ _).mono ?_; rintro e w' ⟨rfl, rfl⟩))
    go_ret
    exact ⟨rfl, rfl⟩
  cases h1 : inB a1 1 500
  · rw [show cordB a0 a1 a2 a3 = false by simp [cordB, h1]]
    go_enter Try.func53, Try.ntmps53
    go_wp2_with (first | (go_at_call 74; refine (l00In_any _ _ _ _).mono ?_; rintro e w' ⟨rfl, rfl⟩))
    go_ret
    exact ⟨rfl, rfl⟩
  cases h2 : inB a2 1 10000
  · rw [show cordB a0 a1 a2 a3 = false by simp [cordB, h2]]
    go_enter Try.func53, Try.ntmps53
    go_wp2_with (first | (go_at_call 74; refine (l00In_any _ _ _ _).mono ?_; rintro e w' ⟨rfl, rfl⟩))
    go_ret
    exact ⟨rfl, rfl⟩
  cases h3 : inB a3 1 500000
  · rw [show cordB a0 a1 a2 a3 = false by simp [cordB, h3]]
    go_enter Try.func53, Try.ntmps53
    go_wp2_with (first | (go_at_call 74; refine (l00In_any _ _ _ _).mono ?_; rintro e w' ⟨rfl, rfl⟩))
    go_ret
    exact ⟨rfl, rfl⟩
  rw [show cordB a0 a1 a2 a3 = true by simp [cordB, h0, h1, h2, h3]]
  go_enter Try.func53, Try.ntmps53
  go_wp2_with (first | (go_at_call 74; refine (l00In_any _ _ _ _).mono ?_; rintro e w' ⟨rfl, rfl⟩))
  go_ret
  exact ⟨rfl, rfl⟩
theorem cordone_is {a0 : Int} {a1 : Int} {a2 : Int} {a3 : Int} {N : Nat} {b : Bool} (h : cordB a0 a1 a2 a3 = b) (w : World)  (hk : Blk w N 39 #[.int .i64 a0, .int .i64 a1, .int .i64 a2, .int .i64 a3]) :
    Calls Try.prog 53 #[.pointer (some ⟨N, 0, none⟩)] w fun e w' => e = .returned (.bool b) ∧ w = w' := by
  rw [← h]; exact cordone_any _ _ _ _ N w  hk
structure CordD where
  a0 : Int
  a1 : Int
  a2 : Int
  a3 : Int
def cordF (x : CordD) : List Value := [.int .i64 x.a0, .int .i64 x.a1, .int .i64 x.a2, .int .i64 x.a3]
theorem cordF_len (x : CordD) : (cordF x).length = 4 := rfl
def cordZ (ds : List CordD) : Prop := ∀ x ∈ ds, True
theorem eqCord_refl (x : CordD) (w : World) :
    Calls Try.prog 63 #[cordV x.a0 x.a1 x.a2 x.a3, cordV x.a0 x.a1 x.a2 x.a3] w fun e w' => e = .returned (.bool true) ∧ Below w.heap.size w w' := by
  go_enter Try.func63, Try.ntmps63
  go_wp2
  go_ret
  exact ⟨rfl, ((Below.refl _ _).alloc (Nat.le_refl _) _).alloc (by simp) _⟩
theorem szCordS_any (A : Option Addr) (c n : Nat) (lf : Int) (w : World) (l0 : 0 ≤ lf) (l1 : lf ≤ 1048576) (hm : n ≤ maxLen) :
    Calls Try.prog 22 #[.slice A n c, .int .i64 lf] w (SzE n lf w) := by
  unfold maxLen at hm
  by_cases h0 : lf < n
  · go_enter Try.func22, Try.ntmps22
    go_wp2
    go_ret
    exact ⟨-1, .inl rfl, rfl, Below.refl _ _⟩
  · go_enter Try.func22, Try.ntmps22
    go_wp2
    go_ret
    exact ⟨lf - n, .inr ⟨by omega, by omega⟩, rfl, Below.refl _ _⟩
theorem infoCord : (Try.prog.info? 39).map (fun i => (i.zero, i.size, i.bytes)) = some (some (.agg #[.int .i64 0, .int .i64 0, .int .i64 0, .int .i64 0]), 4, 32) := by kernel_rfl
theorem fillCord {w : World} {g n k : Nat} {t : TypeId} {ds : List CordD} {x : CordD} (h : Fill w g t (n * 4) (k * 4) (ds.flatMap cordF)) (hx : ds[k]? = some x) (hk : k < n) :
    Fill ((((w.setCell ⟨g, k * 4, none⟩ (.int .i64 x.a0)).setCell ⟨g, k * 4 + 1, none⟩ (.int .i64 x.a1)).setCell ⟨g, k * 4 + 2, none⟩ (.int .i64 x.a2)).setCell ⟨g, k * 4 + 3, none⟩ (.int .i64 x.a3)) g t (n * 4) ((k + 1) * 4) (ds.flatMap cordF) := by
  have h0 := h.step (flat_get cordF_len ds k 0 x _ hx rfl) (by omega)
  have h1 := h0.step (flat_get cordF_len ds k 1 x _ hx rfl) (by omega)
  have h2 := h1.step (flat_get cordF_len ds k 2 x _ hx rfl) (by omega)
  have h3 := h2.step (flat_get cordF_len ds k 3 x _ hx rfl) (by omega)
  rw [show (k + 1) * 4 = k * 4 + 4 by omega]
  exact h3
set_option maxHeartbeats 1000000 in
theorem toCordS_any (A : Option Addr) (c n : Nat) (ds : List CordD) (w : World) (hn : ds.length = n) (h : Rd w w.heap.size 4 A n (ds.flatMap cordF)) (hm : n ≤ 1048576) :
    Calls Try.prog 25 #[.slice A n c] w fun e w' => e = .returned (.slice (some ⟨w.heap.size, 0, none⟩) n n) ∧ Blk w' w.heap.size 39 (ds.flatMap cordF).toArray ∧ Below w.heap.size w w' := by
  obtain ⟨cs, hcs, _, hmk⟩ := make_run (P := Try.prog) Try.underlying24 infoCord n (by omega) (by unfold maxLen; omega)
  have HN := Lib.hid hn
  have H := Lib.hid h
  have F0 := Lib.hid (Fill.start (xs := ds.flatMap cordF) (Blk.new w 39 cs) hcs)
  have b0 := Lib.hid ((Below.refl w.heap.size w).alloc (Nat.le_refl _) (.cells cs 39))
  clear hn h hcs
  go_enter Try.func25, Try.ntmps25
  go_wp2
  clear hmk
  generalize w.alloc (.cells cs 39) = w1 at F0 b0 ⊢
  go_loopw [4] (fun i wr => ∃ k : Nat, k ≤ n ∧ i = .int .i64 k ∧ Hid (Fill wr w.heap.size 39 (n * 4) (k * 4) (ds.flatMap cordF)) ∧ Hid (Below w.heap.size w wr)) (fun i _ => n - (intOf i).toNat)
  case atStart => exact ⟨0, Nat.zero_le _, rfl, by rw [Nat.zero_mul]; exact F0, b0⟩
  case round =>
    obtain ⟨k, hk, rfl, F, hb⟩ := hrel
    by_cases hlt : k < n
    · obtain ⟨x, hx, hxm⟩ := getD_of (l := ds) (i := k) (by rw [HN.out]; exact hlt)
      have HX := Lib.hid hx
      have hsz := F.out.lt
      obtain ⟨b, o, rfl, hbB, hc⟩ := (H.out.below hb.out).at_ cordF_len (by omega)
      have c0 : wr.cell? ⟨b, o + k * 4, none⟩ = some (.int .i64 x.a0) := hc k x 0 _ hx rfl
      have c1 : wr.cell? ⟨b, o + k * 4 + 1, none⟩ = some (.int .i64 x.a1) := hc k x 1 _ hx rfl
      have c2 : wr.cell? ⟨b, o + k * 4 + 2, none⟩ = some (.int .i64 x.a2) := hc k x 2 _ hx rfl
      have c3 : wr.cell? ⟨b, o + k * 4 + 3, none⟩ = some (.int .i64 x.a3) := hc k x 3 _ hx rfl
      clear hc hx hxm
      go_wp2_with fail
      refine (toCord_any x.a0 x.a1 x.a2 x.a3 _).mono ?_
      rintro e w3 ⟨rfl, hb3⟩
      have F3 := Lib.hid (F.out.below hb3 hsz)
      have b3 := Lib.hid (below_more hb.out hb3 (Nat.le_refl _))
      clear hb3 c0 c1 c2 c3 F hb
      obtain ⟨⟨v0, m0⟩, f0⟩ := F3.out.room (j := k * 4) (by omega)
      obtain ⟨⟨v1, m1⟩, f1⟩ := F3.out.room (j := k * 4 + 1) (by omega)
      obtain ⟨⟨v2, m2⟩, f2⟩ := F3.out.room (j := k * 4 + 2) (by omega)
      obtain ⟨⟨v3, m3⟩, f3⟩ := F3.out.room (j := k * 4 + 3) (by omega)
      go_wp2
      have F4 := Lib.hid (fillCord F3.out HX.out hlt)
      have b4 := Lib.hid (((((b3.out.setCell (p := ⟨w.heap.size, k * 4, none⟩) (Nat.le_refl _) (.int .i64 x.a0)).setCell (p := ⟨w.heap.size, k * 4 + 1, none⟩) (Nat.le_refl _) (.int .i64 x.a1)).setCell (p := ⟨w.heap.size, k * 4 + 2, none⟩) (Nat.le_refl _) (.int .i64 x.a2)).setCell (p := ⟨w.heap.size, k * 4 + 3, none⟩) (Nat.le_refl _) (.int .i64 x.a3)))
      go_roundw
      case rel => exact ⟨k + 1, by omega, by go_num, F4, b4⟩
      case measure => simp [intOf]; omega
    · obtain rfl : k = n := by omega
      go_wp2
      go_ret
      exact ⟨rfl, F.out.done (by rw [flat_len cordF_len, HN.out]), hb.out⟩
set_option maxHeartbeats 1000000 in
theorem eqCordS_refl (A A' : Option Addr) (c c' n : Nat) (ds : List CordD) (w : World) (hn : ds.length = n) (h : Rd w w.heap.size 4 A n (ds.flatMap cordF)) (h' : Rd w w.heap.size 4 A' n (ds.flatMap cordF)) (hm : n ≤ 1048576) :
    Calls Try.prog 27 #[.slice A n c, .slice A' n c'] w fun e w' => e = .returned (.bool true) ∧ Below w.heap.size w w' := by
  have HN := Lib.hid hn
  have H := Lib.hid h
  have H' := Lib.hid h'
  clear hn h h'
  go_enter Try.func27, Try.ntmps27
  go_wp2
  go_loopw [5] (fun i wr => ∃ k : Nat, k ≤ n ∧ i = .int .i64 k ∧ Hid (Below w.heap.size w wr)) (fun i _ => n - (intOf i).toNat)
  case atStart => exact ⟨0, Nat.zero_le _, rfl, Lib.hid (Below.refl _ _)⟩
  case round =>
    obtain ⟨k, hk, rfl, hb⟩ := hrel
    by_cases hlt : k < n
    · obtain ⟨x, hx, hxm⟩ := getD_of (l := ds) (i := k) (by rw [HN.out]; exact hlt)
      obtain ⟨b, o, rfl, hbB, hc⟩ := (H.out.below hb.out).at_ cordF_len (by omega)
      obtain ⟨b', o', rfl, hbB', hc'⟩ := (H'.out.below hb.out).at_ cordF_len (by omega)
      have hsz := hb.out.size
      have c0 : ∀ u : Bel wr.heap.size wr, u.val.cell? ⟨b, o + k * 4, none⟩ = some (.int .i64 x.a0) := bel_at (hc k x 0 _ hx rfl) (by omega)
      have d0 : ∀ u : Bel wr.heap.size wr, u.val.cell? ⟨b', o' + k * 4, none⟩ = some (.int .i64 x.a0) := bel_at (hc' k x 0 _ hx rfl) (by omega)
      have c1 : ∀ u : Bel wr.heap.size wr, u.val.cell? ⟨b, o + k * 4 + 1, none⟩ = some (.int .i64 x.a1) := bel_at (hc k x 1 _ hx rfl) (by omega)
      have d1 : ∀ u : Bel wr.heap.size wr, u.val.cell? ⟨b', o' + k * 4 + 1, none⟩ = some (.int .i64 x.a1) := bel_at (hc' k x 1 _ hx rfl) (by omega)
      have c2 : ∀ u : Bel wr.heap.size wr, u.val.cell? ⟨b, o + k * 4 + 2, none⟩ = some (.int .i64 x.a2) := bel_at (hc k x 2 _ hx rfl) (by omega)
      have d2 : ∀ u : Bel wr.heap.size wr, u.val.cell? ⟨b', o' + k * 4 + 2, none⟩ = some (.int .i64 x.a2) := bel_at (hc' k x 2 _ hx rfl) (by omega)
      have c3 : ∀ u : Bel wr.heap.size wr, u.val.cell? ⟨b, o + k * 4 + 3, none⟩ = some (.int .i64 x.a3) := bel_at (hc k x 3 _ hx rfl) (by omega)
      have d3 : ∀ u : Bel wr.heap.size wr, u.val.cell? ⟨b', o' + k * 4 + 3, none⟩ = some (.int .i64 x.a3) := bel_at (hc' k x 3 _ hx rfl) (by omega)
      clear hc hc' hx hxm
      have hk0 : (0 : Int) ≤ k := by omega
      have hki : (k : Int) < n := by omega
      have tn : (k : Int).toNat = k := by simp
      go_wp2_with fail
      (refine wp_region_bel wr.heap.size wr (Below.refl _ _) (by kernel_rfl) (by kernel_rfl) ?_; (repeat (go_big_quiet_step ((first | (go_at_call 63; exact bel_of (Nat.le_refl _) (eqCord_refl x _)))))); refine wpQuiet_nil ?_; rintro w1 ⟨⟨_, hb1⟩, rfl⟩)
      clear c0 d0 c1 d1 c2 d2 c3 d3 tn
      have b1 := Lib.hid (below_more hb.out hb1 (Nat.le_refl _))
      go_wp2
      go_roundw
      case rel => exact ⟨k + 1, by omega, by go_num, b1⟩
      case measure => simp [intOf]; omega
    · go_wp2
      go_ret
      exact ⟨rfl, hb.out⟩
end Go.Proofs.Ytemkggecempmgaa
