/- ValidOutline. -/
import Derived.Test.YtbgbhhaheogjcaaOutline
set_option linter.unusedVariables false
namespace Go.Proofs.Ytbgbhhaheogjcaa
open Go.RowKit

theorem fldArc (v0 v1 v2 v3 v4 v5 : Value) (w : World) : (Instr.field 109 (.agg #[v0, v1, v2, v3, v4, v5]) 1).run Try.prog w = .ok (.agg #[v2, v3]) w := by kernel_rfl
set_option maxHeartbeats 2000000 in
theorem ValidOutline_i (A : Option Addr) (c n : Nat) (ds : List ArcD) (w : World) (hn : ds.length = n) (h : Rd w w.heap.size 6 A n (ds.flatMap arcF)) (hm : n ≤ 1048576) :
    Calls Try.prog 37 #[.slice A n c] w fun e w' => e = .returned (.bool (outB ds)) ∧ Below w.heap.size w w' := by
  have HN := Lib.hid hn
  have H := Lib.hid h
  clear hn h
  go_enter Try.func37, Try.ntmps37
  go_wp2
  go_loopw [7] (fun i wr => ∃ k : Nat, k ≤ n ∧ i = .int .i64 k ∧ Hid (outTo ds k = true) ∧ Hid (Below w.heap.size w wr)) (fun i _ => n - (intOf i).toNat)
  case atStart => exact ⟨0, Nat.zero_le _, rfl, Lib.hid rfl, Lib.hid (Below.refl _ _)⟩
  case round =>
    obtain ⟨k, hk, rfl, hf, hb⟩ := hrel
    by_cases hlt : k < n
    · obtain ⟨m1, m2, m3⟩ := mod_is hlt
      obtain ⟨x, hx, hxm⟩ := getD_of (l := ds) (i := k) (by rw [HN.out]; exact hlt)
      obtain ⟨y, hy, hym⟩ := getD_of (l := ds) (i := (k + 1) % n) (by rw [HN.out]; exact m1)
      have HA := Lib.hid (outAt_is HN.out hx hy)
      obtain ⟨b, o, rfl, hbB, hc⟩ := (H.out.below hb.out).at_ arcF_len (by omega)
      have hsz := hb.out.size
      have c0 : wr.cell? ⟨b, o + k * 6, none⟩ = some (.int .i64 x.a0) := hc k x 0 _ hx rfl
      have c1 : wr.cell? ⟨b, o + k * 6 + 1, none⟩ = some (.int .i64 x.a1) := hc k x 1 _ hx rfl
      have c2 : wr.cell? ⟨b, o + k * 6 + 2, none⟩ = some (.int .i64 x.a2) := hc k x 2 _ hx rfl
      have c3 : wr.cell? ⟨b, o + k * 6 + 3, none⟩ = some (.int .i64 x.a3) := hc k x 3 _ hx rfl
      have c4 : wr.cell? ⟨b, o + k * 6 + 4, none⟩ = some (.int .i64 x.a4) := hc k x 4 _ hx rfl
      have c5 : wr.cell? ⟨b, o + k * 6 + 5, none⟩ = some (.int .i64 x.a5) := hc k x 5 _ hx rfl
      have hk1 := Lib.hid (Blk.new wr 109 #[.int .i64 x.a0, .int .i64 x.a1, .int .i64 x.a2, .int .i64 x.a3, .int .i64 x.a4, .int .i64 x.a5])
      have hb1 := Lib.hid ((Below.refl wr.heap.size wr).alloc (Nat.le_refl _) (.cells #[.int .i64 x.a0, .int .i64 x.a1, .int .i64 x.a2, .int .i64 x.a3, .int .i64 x.a4, .int .i64 x.a5] 109))
      have D0 := Lib.hid ((((Below.refl wr.heap.size wr).alloc (Nat.le_refl _) (.cells #[.int .i64 x.a0, .int .i64 x.a1, .int .i64 x.a2, .int .i64 x.a3, .int .i64 x.a4, .int .i64 x.a5] 109)).cell (p := ⟨b, o + (k + 1) % n * 6, none⟩) (by show b < wr.heap.size; omega)).trans (hc ((k + 1) % n) y 0 _ hy rfl))
      have D1 := Lib.hid ((((Below.refl wr.heap.size wr).alloc (Nat.le_refl _) (.cells #[.int .i64 x.a0, .int .i64 x.a1, .int .i64 x.a2, .int .i64 x.a3, .int .i64 x.a4, .int .i64 x.a5] 109)).cell (p := ⟨b, o + (k + 1) % n * 6 + 1, none⟩) (by show b < wr.heap.size; omega)).trans (hc ((k + 1) % n) y 1 _ hy rfl))
      have D2 := Lib.hid ((((Below.refl wr.heap.size wr).alloc (Nat.le_refl _) (.cells #[.int .i64 x.a0, .int .i64 x.a1, .int .i64 x.a2, .int .i64 x.a3, .int .i64 x.a4, .int .i64 x.a5] 109)).cell (p := ⟨b, o + (k + 1) % n * 6 + 2, none⟩) (by show b < wr.heap.size; omega)).trans (hc ((k + 1) % n) y 2 _ hy rfl))
      have D3 := Lib.hid ((((Below.refl wr.heap.size wr).alloc (Nat.le_refl _) (.cells #[.int .i64 x.a0, .int .i64 x.a1, .int .i64 x.a2, .int .i64 x.a3, .int .i64 x.a4, .int .i64 x.a5] 109)).cell (p := ⟨b, o + (k + 1) % n * 6 + 3, none⟩) (by show b < wr.heap.size; omega)).trans (hc ((k + 1) % n) y 3 _ hy rfl))
      have D4 := Lib.hid ((((Below.refl wr.heap.size wr).alloc (Nat.le_refl _) (.cells #[.int .i64 x.a0, .int .i64 x.a1, .int .i64 x.a2, .int .i64 x.a3, .int .i64 x.a4, .int .i64 x.a5] 109)).cell (p := ⟨b, o + (k + 1) % n * 6 + 4, none⟩) (by show b < wr.heap.size; omega)).trans (hc ((k + 1) % n) y 4 _ hy rfl))
      have D5 := Lib.hid ((((Below.refl wr.heap.size wr).alloc (Nat.le_refl _) (.cells #[.int .i64 x.a0, .int .i64 x.a1, .int .i64 x.a2, .int .i64 x.a3, .int .i64 x.a4, .int .i64 x.a5] 109)).cell (p := ⟨b, o + (k + 1) % n * 6 + 5, none⟩) (by show b < wr.heap.size; omega)).trans (hc ((k + 1) % n) y 5 _ hy rfl))
      clear hc hx hxm hy hym
      have M2 := Lib.hid m2
      have M3 := Lib.hid m3
      clear m2 m3
      cases hp : arcP x
      · have hp' : arcB x.a0 x.a1 x.a2 x.a3 x.a4 x.a5 = false := hp
        have HF := Lib.hid (outB_bad (k := k) (by rw [HN.out]; exact hlt) (HA.out.trans (by rw [hp, Bool.false_and])))
        clear hp
        go_wp2_with fail
        clear c0 c1 c2 c3 c4 c5
        generalize wr.alloc (.cells #[.int .i64 x.a0, .int .i64 x.a1, .int .i64 x.a2, .int .i64 x.a3, .int .i64 x.a4, .int .i64 x.a5] 109) = W at hk1 hb1 D0 D1 D2 D3 D4 D5 ⊢
        have hc := bel_cell hk1.out hk1.out.lt
        (refine wp_region_bel W.heap.size W (Below.refl _ _) (by kernel_rfl) (by kernel_rfl) ?_; (repeat (go_big_quiet_step ((first | (go_at_call 91; exact bel_of (Nat.le_refl _) (ValidArc_is hp' _)))))); refine wpQuiet_nil ?_; rintro w1 ⟨⟨_, hb2⟩, rfl⟩)
        clear hc
        have b2 := Lib.hid (below_more hb.out (below_more hb1.out hb2 (Nat.le_refl _)) (Nat.le_refl _))
        go_wp2
        go_ret
        exact ⟨ret_bool HF.out.symm, b2.out⟩
      · have hp' : arcB x.a0 x.a1 x.a2 x.a3 x.a4 x.a5 = true := hp
        cases h4 : (x.a4 == y.a2)
        · have h4' : (y.a2 == x.a4) = false := by rw [Bool.beq_comm]; exact h4
          have HF := Lib.hid (outB_bad (k := k) (by rw [HN.out]; exact hlt) (HA.out.trans (by rw [h4, Bool.false_and, Bool.and_false])))
          clear hp
          go_wp2_with fail
          clear c0 c1 c2 c3 c4 c5
          generalize wr.alloc (.cells #[.int .i64 x.a0, .int .i64 x.a1, .int .i64 x.a2, .int .i64 x.a3, .int .i64 x.a4, .int .i64 x.a5] 109) = W at hk1 hb1 D0 D1 D2 D3 D4 D5 ⊢
          have hc := bel_cell hk1.out hk1.out.lt
          have hfl := fldArc
          have hbW : b < W.heap.size := by have := hb1.out.size; omega
          have d0 : ∀ u : Bel W.heap.size W, u.val.cell? ⟨b, o + (k + 1) % n * 6, none⟩ = some (.int .i64 y.a0) := bel_at D0.out hbW
          have d1 : ∀ u : Bel W.heap.size W, u.val.cell? ⟨b, o + (k + 1) % n * 6 + 1, none⟩ = some (.int .i64 y.a1) := bel_at D1.out hbW
          have d2 : ∀ u : Bel W.heap.size W, u.val.cell? ⟨b, o + (k + 1) % n * 6 + 2, none⟩ = some (.int .i64 y.a2) := bel_at D2.out hbW
          have d3 : ∀ u : Bel W.heap.size W, u.val.cell? ⟨b, o + (k + 1) % n * 6 + 3, none⟩ = some (.int .i64 y.a3) := bel_at D3.out hbW
          have d4 : ∀ u : Bel W.heap.size W, u.val.cell? ⟨b, o + (k + 1) % n * 6 + 4, none⟩ = some (.int .i64 y.a4) := bel_at D4.out hbW
          have d5 : ∀ u : Bel W.heap.size W, u.val.cell? ⟨b, o + (k + 1) % n * 6 + 5, none⟩ = some (.int .i64 y.a5) := bel_at D5.out hbW
          (refine wp_region_bel W.heap.size W (Below.refl _ _) (by kernel_rfl) (by kernel_rfl) ?_; (repeat (go_big_quiet_step ((first | (go_at_call 91; exact bel_of (Nat.le_refl _) (ValidArc_is hp' _)) | (go_at_call 92; exact bel_of (Nat.le_refl _) (next_any b o c n k y _ hlt hm (d0 _) (d1 _) (d2 _) (d3 _) (d4 _) (d5 _))))))); refine wpQuiet_nil ?_; rintro w1 ⟨⟨_, hb2⟩, rfl⟩)
          clear hc hfl d0 d1 d2 d3 d4 d5
          have b2 := Lib.hid (below_more hb.out (below_more hb1.out hb2 (Nat.le_refl _)) (Nat.le_refl _))
          go_wp2
          go_ret
          exact ⟨ret_bool HF.out.symm, b2.out⟩
        · have h4' : (y.a2 == x.a4) = true := by rw [Bool.beq_comm]; exact h4
          cases h5 : (x.a5 == y.a3)
          · have h5' : (y.a3 == x.a5) = false := by rw [Bool.beq_comm]; exact h5
            have HF := Lib.hid (outB_bad (k := k) (by rw [HN.out]; exact hlt) (HA.out.trans (by rw [h5, Bool.and_false, Bool.and_false])))
            clear hp
            go_wp2_with fail
            clear c0 c1 c2 c3 c4 c5
            generalize wr.alloc (.cells #[.int .i64 x.a0, .int .i64 x.a1, .int .i64 x.a2, .int .i64 x.a3, .int .i64 x.a4, .int .i64 x.a5] 109) = W at hk1 hb1 D0 D1 D2 D3 D4 D5 ⊢
            have hc := bel_cell hk1.out hk1.out.lt
            have hfl := fldArc
            have hbW : b < W.heap.size := by have := hb1.out.size; omega
            have d0 : ∀ u : Bel W.heap.size W, u.val.cell? ⟨b, o + (k + 1) % n * 6, none⟩ = some (.int .i64 y.a0) := bel_at D0.out hbW
            have d1 : ∀ u : Bel W.heap.size W, u.val.cell? ⟨b, o + (k + 1) % n * 6 + 1, none⟩ = some (.int .i64 y.a1) := bel_at D1.out hbW
            have d2 : ∀ u : Bel W.heap.size W, u.val.cell? ⟨b, o + (k + 1) % n * 6 + 2, none⟩ = some (.int .i64 y.a2) := bel_at D2.out hbW
            have d3 : ∀ u : Bel W.heap.size W, u.val.cell? ⟨b, o + (k + 1) % n * 6 + 3, none⟩ = some (.int .i64 y.a3) := bel_at D3.out hbW
            have d4 : ∀ u : Bel W.heap.size W, u.val.cell? ⟨b, o + (k + 1) % n * 6 + 4, none⟩ = some (.int .i64 y.a4) := bel_at D4.out hbW
            have d5 : ∀ u : Bel W.heap.size W, u.val.cell? ⟨b, o + (k + 1) % n * 6 + 5, none⟩ = some (.int .i64 y.a5) := bel_at D5.out hbW
            (refine wp_region_bel W.heap.size W (Below.refl _ _) (by kernel_rfl) (by kernel_rfl) ?_; (repeat (go_big_quiet_step ((first | (go_at_call 91; exact bel_of (Nat.le_refl _) (ValidArc_is hp' _)) | (go_at_call 92; exact bel_of (Nat.le_refl _) (next_any b o c n k y _ hlt hm (d0 _) (d1 _) (d2 _) (d3 _) (d4 _) (d5 _))))))); refine wpQuiet_nil ?_; rintro w1 ⟨⟨_, hb2⟩, rfl⟩)
            clear hc hfl d0 d1 d2 d3 d4 d5
            have b2 := Lib.hid (below_more hb.out (below_more hb1.out hb2 (Nat.le_refl _)) (Nat.le_refl _))
            go_wp2
            go_ret
            exact ⟨ret_bool HF.out.symm, b2.out⟩
          · have h5' : (y.a3 == x.a5) = true := by rw [Bool.beq_comm]; exact h5
            have HF := Lib.hid (outTo_next hf.out (HA.out.trans (by rw [hp, h4, h5]; rfl)))
            clear hp
            go_wp2_with fail
            clear c0 c1 c2 c3 c4 c5
            generalize wr.alloc (.cells #[.int .i64 x.a0, .int .i64 x.a1, .int .i64 x.a2, .int .i64 x.a3, .int .i64 x.a4, .int .i64 x.a5] 109) = W at hk1 hb1 D0 D1 D2 D3 D4 D5 ⊢
            have hc := bel_cell hk1.out hk1.out.lt
            have hfl := fldArc
            have hbW : b < W.heap.size := by have := hb1.out.size; omega
            have d0 : ∀ u : Bel W.heap.size W, u.val.cell? ⟨b, o + (k + 1) % n * 6, none⟩ = some (.int .i64 y.a0) := bel_at D0.out hbW
            have d1 : ∀ u : Bel W.heap.size W, u.val.cell? ⟨b, o + (k + 1) % n * 6 + 1, none⟩ = some (.int .i64 y.a1) := bel_at D1.out hbW
            have d2 : ∀ u : Bel W.heap.size W, u.val.cell? ⟨b, o + (k + 1) % n * 6 + 2, none⟩ = some (.int .i64 y.a2) := bel_at D2.out hbW
            have d3 : ∀ u : Bel W.heap.size W, u.val.cell? ⟨b, o + (k + 1) % n * 6 + 3, none⟩ = some (.int .i64 y.a3) := bel_at D3.out hbW
            have d4 : ∀ u : Bel W.heap.size W, u.val.cell? ⟨b, o + (k + 1) % n * 6 + 4, none⟩ = some (.int .i64 y.a4) := bel_at D4.out hbW
            have d5 : ∀ u : Bel W.heap.size W, u.val.cell? ⟨b, o + (k + 1) % n * 6 + 5, none⟩ = some (.int .i64 y.a5) := bel_at D5.out hbW
            (refine wp_region_bel W.heap.size W (Below.refl _ _) (by kernel_rfl) (by kernel_rfl) ?_; (repeat (go_big_quiet_step ((first | (go_at_call 91; exact bel_of (Nat.le_refl _) (ValidArc_is hp' _)) | (go_at_call 92; exact bel_of (Nat.le_refl _) (next_any b o c n k y _ hlt hm (d0 _) (d1 _) (d2 _) (d3 _) (d4 _) (d5 _))))))); refine wpQuiet_nil ?_; rintro w1 ⟨⟨_, hb2⟩, rfl⟩)
            clear hc hfl d0 d1 d2 d3 d4 d5
            have b2 := Lib.hid (below_more hb.out (below_more hb1.out hb2 (Nat.le_refl _)) (Nat.le_refl _))
            go_wp2
            go_roundw
            case rel => exact ⟨k + 1, by omega, by go_num, HF, b2⟩
            case measure => simp [intOf]; omega
    · obtain rfl : k = n := by omega
      have HF := Lib.hid (outB_end HN.out hf.out)
      go_wp2_with ((go_at_call 75; refine (within_any _ _ _ _).mono ?_; rintro e w' ⟨rfl, rfl⟩))
      go_ret
      exact ⟨ret_bool HF.out.symm, hb.out⟩
set_option maxHeartbeats 2000000 in
theorem l05Ok_s (A : Option Addr) (c n : Nat) (ds : List ArcD) (w : World) (hn : ds.length = n) (h : Rd w w.heap.size 6 A n (ds.flatMap arcF)) (hm : n ≤ 1048576) :
    Calls Try.prog 89 #[.slice A n c] w fun e w' => e = .returned (.bool (outB ds)) ∧ Below w.heap.size w w' := by
  have HN := Lib.hid hn
  have H := Lib.hid h
  clear hn h
  go_enter Try.func89, Try.ntmps89
  go_wp2
  go_loopw [4] (fun i wr => ∃ k : Nat, k ≤ n ∧ i = .int .i64 k ∧ Hid (outTo ds k = true) ∧ Hid (Below w.heap.size w wr)) (fun i _ => n - (intOf i).toNat)
  case atStart => exact ⟨0, Nat.zero_le _, rfl, Lib.hid rfl, Lib.hid (Below.refl _ _)⟩
  case round =>
    obtain ⟨k, hk, rfl, hf, hb⟩ := hrel
    by_cases hlt : k < n
    · obtain ⟨m1, m2, m3⟩ := mod_is hlt
      obtain ⟨x, hx, hxm⟩ := getD_of (l := ds) (i := k) (by rw [HN.out]; exact hlt)
      obtain ⟨y, hy, hym⟩ := getD_of (l := ds) (i := (k + 1) % n) (by rw [HN.out]; exact m1)
      have HA := Lib.hid (outAt_is HN.out hx hy)
      obtain ⟨b, o, rfl, hbB, hc⟩ := (H.out.below hb.out).at_ arcF_len (by omega)
      have hsz := hb.out.size
      have c0 : wr.cell? ⟨b, o + k * 6, none⟩ = some (.int .i64 x.a0) := hc k x 0 _ hx rfl
      have c1 : wr.cell? ⟨b, o + k * 6 + 1, none⟩ = some (.int .i64 x.a1) := hc k x 1 _ hx rfl
      have c2 : wr.cell? ⟨b, o + k * 6 + 2, none⟩ = some (.int .i64 x.a2) := hc k x 2 _ hx rfl
      have c3 : wr.cell? ⟨b, o + k * 6 + 3, none⟩ = some (.int .i64 x.a3) := hc k x 3 _ hx rfl
      have c4 : wr.cell? ⟨b, o + k * 6 + 4, none⟩ = some (.int .i64 x.a4) := hc k x 4 _ hx rfl
      have c5 : wr.cell? ⟨b, o + k * 6 + 5, none⟩ = some (.int .i64 x.a5) := hc k x 5 _ hx rfl
      have HT : Hid (At wr b (o + k * 6) [.int .i64 x.a0, .int .i64 x.a1, .int .i64 x.a2, .int .i64 x.a3, .int .i64 x.a4, .int .i64 x.a5]) := Lib.hid ⟨by omega, fun j u hu => hc k x j u hx hu⟩
      have D2 := Lib.hid (hc ((k + 1) % n) y 2 _ hy rfl)
      have D3 := Lib.hid (hc ((k + 1) % n) y 3 _ hy rfl)
      clear hc hx hxm hy hym
      have M2 := Lib.hid m2
      have M3 := Lib.hid m3
      clear m2 m3
      cases hp : arcP x
      · have hp' : arcB x.a0 x.a1 x.a2 x.a3 x.a4 x.a5 = false := hp
        have HF := Lib.hid (outB_bad (k := k) (by rw [HN.out]; exact hlt) (HA.out.trans (by rw [hp, Bool.false_and])))
        clear hp
        go_wp2_with fail
        have tk0 : (0 : Int) ≤ k := by omega
        have tk1 : (k : Int) < n := by omega
        have tk2 : (k : Int).toNat = k := by simp
        have hT : ∀ u : Bel wr.heap.size wr, At u.val b (o + k * 6) [.int .i64 x.a0, .int .i64 x.a1, .int .i64 x.a2, .int .i64 x.a3, .int .i64 x.a4, .int .i64 x.a5] := fun u => ⟨Nat.lt_of_lt_of_le HT.out.1 u.below.size, fun j v hv => (u.below.cell (p := ⟨b, o + k * 6 + j, none⟩) HT.out.1).trans (HT.out.2 j v hv)⟩
        have HTT := Lib.hid hT
        clear hT c0 c1 c2 c3 c4 c5
        (refine wp_region_bel wr.heap.size wr (Below.refl _ _) (by kernel_rfl) (by kernel_rfl) ?_; (repeat (go_big_quiet_step ((first | (go_at_call 125; exact bel_of (Nat.le_refl _) (l05One_atis hp' _ (HTT.out _))))))); refine wpQuiet_nil ?_; rintro w1 ⟨⟨_, hb2⟩, rfl⟩)
        clear tk2
        have b2 := Lib.hid (below_more hb.out hb2 (Nat.le_refl _))
        go_wp2
        go_ret
        exact ⟨ret_bool HF.out.symm, b2.out⟩
      · have hp' : arcB x.a0 x.a1 x.a2 x.a3 x.a4 x.a5 = true := hp
        cases h4 : (x.a4 == y.a2)
        · have h4' : (y.a2 == x.a4) = false := by rw [Bool.beq_comm]; exact h4
          have HF := Lib.hid (outB_bad (k := k) (by rw [HN.out]; exact hlt) (HA.out.trans (by rw [h4, Bool.false_and, Bool.and_false])))
          clear hp
          go_wp2_with fail
          have tk0 : (0 : Int) ≤ k := by omega
          have tk1 : (k : Int) < n := by omega
          have tk2 : (k : Int).toNat = k := by simp
          have C4 : ∀ u : Bel wr.heap.size wr, u.val.cell? ⟨b, o + k * 6 + 4, none⟩ = some (.int .i64 x.a4) := bel_at c4 (by omega)
          have C5 : ∀ u : Bel wr.heap.size wr, u.val.cell? ⟨b, o + k * 6 + 5, none⟩ = some (.int .i64 x.a5) := bel_at c5 (by omega)
          have d2 : ∀ u : Bel wr.heap.size wr, u.val.cell? ⟨b, o + (k + 1) % n * 6 + 2, none⟩ = some (.int .i64 y.a2) := bel_at D2.out (by omega)
          have d3 : ∀ u : Bel wr.heap.size wr, u.val.cell? ⟨b, o + (k + 1) % n * 6 + 3, none⟩ = some (.int .i64 y.a3) := bel_at D3.out (by omega)
          have e1 : IntKind.i64.wrap ((k : Int) + 1) = (k : Int) + 1 := IntWalk.i64_in _ (by omega)
          have e3 : ((n : Int) == 0) = false := by rw [Bool.eq_false_iff]; simp; omega
          have e5 : ((k : Int) + 1) % n < n := Int.emod_lt_of_pos _ (by omega)
          have e2 : 0 ≤ ((k : Int) + 1) % n := Int.emod_nonneg _ (by omega)
          have e6 : (((k : Int) + 1) % n).toNat = (k + 1) % n := by rw [M3.out]; exact Int.toNat_natCast _
          have hT : ∀ u : Bel wr.heap.size wr, At u.val b (o + k * 6) [.int .i64 x.a0, .int .i64 x.a1, .int .i64 x.a2, .int .i64 x.a3, .int .i64 x.a4, .int .i64 x.a5] := fun u => ⟨Nat.lt_of_lt_of_le HT.out.1 u.below.size, fun j v hv => (u.below.cell (p := ⟨b, o + k * 6 + j, none⟩) HT.out.1).trans (HT.out.2 j v hv)⟩
          have HTT := Lib.hid hT
          clear hT c0 c1 c2 c3 c4 c5
          (refine wp_region_bel wr.heap.size wr (Below.refl _ _) (by kernel_rfl) (by kernel_rfl) ?_; (repeat (go_big_quiet_step ((first | (go_at_call 125; exact bel_of (Nat.le_refl _) (l05One_atis hp' _ (HTT.out _))))))); refine wpQuiet_nil ?_; rintro w1 ⟨⟨_, hb2⟩, rfl⟩)
          clear tk2 C4 C5 d2 d3 e1 e2 e3 e5 e6
          have b2 := Lib.hid (below_more hb.out hb2 (Nat.le_refl _))
          go_wp2
          go_ret
          exact ⟨ret_bool HF.out.symm, b2.out⟩
        · have h4' : (y.a2 == x.a4) = true := by rw [Bool.beq_comm]; exact h4
          cases h5 : (x.a5 == y.a3)
          · have h5' : (y.a3 == x.a5) = false := by rw [Bool.beq_comm]; exact h5
            have HF := Lib.hid (outB_bad (k := k) (by rw [HN.out]; exact hlt) (HA.out.trans (by rw [h5, Bool.and_false, Bool.and_false])))
            clear hp
            go_wp2_with fail
            have tk0 : (0 : Int) ≤ k := by omega
            have tk1 : (k : Int) < n := by omega
            have tk2 : (k : Int).toNat = k := by simp
            have C4 : ∀ u : Bel wr.heap.size wr, u.val.cell? ⟨b, o + k * 6 + 4, none⟩ = some (.int .i64 x.a4) := bel_at c4 (by omega)
            have C5 : ∀ u : Bel wr.heap.size wr, u.val.cell? ⟨b, o + k * 6 + 5, none⟩ = some (.int .i64 x.a5) := bel_at c5 (by omega)
            have d2 : ∀ u : Bel wr.heap.size wr, u.val.cell? ⟨b, o + (k + 1) % n * 6 + 2, none⟩ = some (.int .i64 y.a2) := bel_at D2.out (by omega)
            have d3 : ∀ u : Bel wr.heap.size wr, u.val.cell? ⟨b, o + (k + 1) % n * 6 + 3, none⟩ = some (.int .i64 y.a3) := bel_at D3.out (by omega)
            have e1 : IntKind.i64.wrap ((k : Int) + 1) = (k : Int) + 1 := IntWalk.i64_in _ (by omega)
            have e3 : ((n : Int) == 0) = false := by rw [Bool.eq_false_iff]; simp; omega
            have e5 : ((k : Int) + 1) % n < n := Int.emod_lt_of_pos _ (by omega)
            have e2 : 0 ≤ ((k : Int) + 1) % n := Int.emod_nonneg _ (by omega)
            have e6 : (((k : Int) + 1) % n).toNat = (k + 1) % n := by rw [M3.out]; exact Int.toNat_natCast _
            have hT : ∀ u : Bel wr.heap.size wr, At u.val b (o + k * 6) [.int .i64 x.a0, .int .i64 x.a1, .int .i64 x.a2, .int .i64 x.a3, .int .i64 x.a4, .int .i64 x.a5] := fun u => ⟨Nat.lt_of_lt_of_le HT.out.1 u.below.size, fun j v hv => (u.below.cell (p := ⟨b, o + k * 6 + j, none⟩) HT.out.1).trans (HT.out.2 j v hv)⟩
            have HTT := Lib.hid hT
            clear hT c0 c1 c2 c3 c4 c5
            (refine wp_region_bel wr.heap.size wr (Below.refl _ _) (by kernel_rfl) (by kernel_rfl) ?_; (repeat (go_big_quiet_step ((first | (go_at_call 125; exact bel_of (Nat.le_refl _) (l05One_atis hp' _ (HTT.out _))))))); refine wpQuiet_nil ?_; rintro w1 ⟨⟨_, hb2⟩, rfl⟩)
            clear tk2 C4 C5 d2 d3 e1 e2 e3 e5 e6
            have b2 := Lib.hid (below_more hb.out hb2 (Nat.le_refl _))
            go_wp2
            go_ret
            exact ⟨ret_bool HF.out.symm, b2.out⟩
          · have h5' : (y.a3 == x.a5) = true := by rw [Bool.beq_comm]; exact h5
            have HF := Lib.hid (outTo_next hf.out (HA.out.trans (by rw [hp, h4, h5]; rfl)))
            clear hp
            go_wp2_with fail
            have tk0 : (0 : Int) ≤ k := by omega
            have tk1 : (k : Int) < n := by omega
            have tk2 : (k : Int).toNat = k := by simp
            have C4 : ∀ u : Bel wr.heap.size wr, u.val.cell? ⟨b, o + k * 6 + 4, none⟩ = some (.int .i64 x.a4) := bel_at c4 (by omega)
            have C5 : ∀ u : Bel wr.heap.size wr, u.val.cell? ⟨b, o + k * 6 + 5, none⟩ = some (.int .i64 x.a5) := bel_at c5 (by omega)
            have d2 : ∀ u : Bel wr.heap.size wr, u.val.cell? ⟨b, o + (k + 1) % n * 6 + 2, none⟩ = some (.int .i64 y.a2) := bel_at D2.out (by omega)
            have d3 : ∀ u : Bel wr.heap.size wr, u.val.cell? ⟨b, o + (k + 1) % n * 6 + 3, none⟩ = some (.int .i64 y.a3) := bel_at D3.out (by omega)
            have e1 : IntKind.i64.wrap ((k : Int) + 1) = (k : Int) + 1 := IntWalk.i64_in _ (by omega)
            have e3 : ((n : Int) == 0) = false := by rw [Bool.eq_false_iff]; simp; omega
            have e5 : ((k : Int) + 1) % n < n := Int.emod_lt_of_pos _ (by omega)
            have e2 : 0 ≤ ((k : Int) + 1) % n := Int.emod_nonneg _ (by omega)
            have e6 : (((k : Int) + 1) % n).toNat = (k + 1) % n := by rw [M3.out]; exact Int.toNat_natCast _
            have hT : ∀ u : Bel wr.heap.size wr, At u.val b (o + k * 6) [.int .i64 x.a0, .int .i64 x.a1, .int .i64 x.a2, .int .i64 x.a3, .int .i64 x.a4, .int .i64 x.a5] := fun u => ⟨Nat.lt_of_lt_of_le HT.out.1 u.below.size, fun j v hv => (u.below.cell (p := ⟨b, o + k * 6 + j, none⟩) HT.out.1).trans (HT.out.2 j v hv)⟩
            have HTT := Lib.hid hT
            clear hT c0 c1 c2 c3 c4 c5
            (refine wp_region_bel wr.heap.size wr (Below.refl _ _) (by kernel_rfl) (by kernel_rfl) ?_; (repeat (go_big_quiet_step ((first | (go_at_call 125; exact bel_of (Nat.le_refl _) (l05One_atis hp' _ (HTT.out _))))))); refine wpQuiet_nil ?_; rintro w1 ⟨⟨_, hb2⟩, rfl⟩)
            clear tk2 C4 C5 d2 d3 e1 e2 e3 e5 e6
            have b2 := Lib.hid (below_more hb.out hb2 (Nat.le_refl _))
            go_wp2
            go_roundw
            case rel => exact ⟨k + 1, by omega, by go_num, HF, b2⟩
            case measure => simp [intOf]; omega
    · obtain rfl : k = n := by omega
      have HF := Lib.hid (outB_end HN.out hf.out)
      by_cases hq : 2 ≤ k
      · have dq : decide ((2 : Int) ≤ k) = true := by simp; omega
        have dq' : decide (2 ≤ k) = true := by simp; omega
        go_wp2
        go_ret
        exact ⟨ret_bool (by rw [HF.out]; simp [inB]; omega), hb.out⟩
      · have dq : decide ((2 : Int) ≤ k) = false := by simp; omega
        have dq' : decide (2 ≤ k) = false := by simp; omega
        go_wp2
        go_ret
        exact ⟨ret_bool (by rw [HF.out]; simp [inB]; omega), hb.out⟩
theorem ValidOutline_s (A : Option Addr) (c n : Nat) (ds : List ArcD) (w : World) (hn : ds.length = n) (h : Rd w w.heap.size 6 A n (ds.flatMap arcF)) (hm : n ≤ 1048576) :
    Calls Try.prog 35 #[.slice A n c] w fun e w' => e = .returned (.bool (outB ds)) ∧ Below w.heap.size w w' := by
  go_enter Try.func35, Try.ntmps35
  go_wp2_with fail
  refine (l05Ok_s A c n ds w hn h hm).mono ?_
  rintro r w1 ⟨rfl, hb1⟩
  go_wp2
  go_ret
  exact ⟨rfl, hb1⟩
end Go.Proofs.Ytbgbhhaheogjcaa
