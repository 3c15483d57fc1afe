/- ValidRibs and its like. -/
import Derived.Test.YtbgbhhaheogjcaaRibs
import Derived.Test.YtbgbhhaheogjcaaOrd
set_option linter.unusedVariables false
namespace Go.Proofs.Ytbgbhhaheogjcaa
open Go.RowKit

def ribP (x : RibD) : Bool := ribB x.s0 x.a1 x.a2
def ribsB (ds : List RibD) : Bool := ordB ribP (·.s0) ds && decide (ds.length ≤ 8)
set_option maxHeartbeats 1000000 in
theorem riboneat_any (s0 : ByteArray) (a1 : Int) (a2 : Int) (b o : Nat) (w : World) (z0 : s0.size ≤ maxLen) (c0 : w.cell? ⟨b, o, none⟩ = some (.string s0)) (c1 : w.cell? ⟨b, o + 1, none⟩ = some (.int .i64 a1)) (c2 : w.cell? ⟨b, o + 2, none⟩ = some (.int .i64 a2)) :
    Calls Try.prog 131 #[.pointer (some ⟨b, o, none⟩)] w fun e w' => e = .returned (.bool (ribB s0 a1 a2)) ∧ w = w' := by
  cases h0 : nameB s0
  · rw [show ribB s0 a1 a2 = false by simp [ribB, h0]]
    go_enter Try.func131, Try.ntmps131
    go_wp2_with (first | (go_at_call 81; refine (l01Name_any _ _ (by assumption)).mono ?_; rintro e w' ⟨rfl, rfl⟩) | (go_at_call 137; refine (l06Size_any _ _).mono ?_; rintro e w' ⟨rfl, rfl⟩))
    go_ret
    exact ⟨rfl, rfl⟩
  cases h1 : inB a1 1 10000
  · rw [show ribB s0 a1 a2 = false by simp [ribB, h1]]
    go_enter Try.func131, Try.ntmps131
    go_wp2_with (first | (go_at_call 81; refine (l01Name_any _ _ (by assumption)).mono ?_; rintro e w' ⟨rfl, rfl⟩) | (go_at_call 137; refine (l06Size_any _ _).mono ?_; rintro e w' ⟨rfl, rfl⟩))
    go_ret
    exact ⟨rfl, rfl⟩
  cases h2 : inB a2 1 10000
  · rw [show ribB s0 a1 a2 = false by simp [ribB, h2]]
    go_enter Try.func131, Try.ntmps131
    go_wp2_with (first | (go_at_call 81; refine (l01Name_any _ _ (by assumption)).mono ?_; rintro e w' ⟨rfl, rfl⟩) | (go_at_call 137; refine (l06Size_any _ _).mono ?_; rintro e w' ⟨rfl, rfl⟩))
    go_ret
    exact ⟨rfl, rfl⟩
  rw [show ribB s0 a1 a2 = true by simp [ribB, h0, h1, h2]]
  go_enter Try.func131, Try.ntmps131
  go_wp2_with (first | (go_at_call 81; refine (l01Name_any _ _ (by assumption)).mono ?_; rintro e w' ⟨rfl, rfl⟩) | (go_at_call 137; refine (l06Size_any _ _).mono ?_; rintro e w' ⟨rfl, rfl⟩))
  go_ret
  exact ⟨rfl, rfl⟩
theorem riboneat_is {s0 : ByteArray} {a1 : Int} {a2 : Int} {b o : Nat} {v : Bool} (h : ribB s0 a1 a2 = v) (w : World) (z0 : s0.size ≤ maxLen) (c0 : w.cell? ⟨b, o, none⟩ = some (.string s0)) (c1 : w.cell? ⟨b, o + 1, none⟩ = some (.int .i64 a1)) (c2 : w.cell? ⟨b, o + 2, none⟩ = some (.int .i64 a2)) :
    Calls Try.prog 131 #[.pointer (some ⟨b, o, none⟩)] w fun e w' => e = .returned (.bool v) ∧ w = w' := by
  rw [← h]; exact riboneat_any _ _ _ b o w z0 c0 c1 c2
set_option maxHeartbeats 2000000 in
theorem ValidRibs_i (A : Option Addr) (c n : Nat) (ds : List RibD) (w : World) (hn : ds.length = n) (h : Rd w w.heap.size 3 A n (ds.flatMap ribF)) (hz : ribZ ds) (hm : n ≤ 1048576) :
    Calls Try.prog 49 #[.slice A n c] w fun e w' => e = .returned (.bool (ribsB ds)) ∧ Below w.heap.size w w' := by
  have HN := Lib.hid hn
  have H := Lib.hid h
  clear hn h
  go_enter Try.func49, Try.ntmps49
  go_wp2
  go_loopw [7] (fun i wr => ∃ k : Nat, k ≤ n ∧ i = .int .i64 k ∧ Hid (ordTo ribP (·.s0) ds k = true) ∧ Hid (Below w.heap.size w wr)) (fun i _ => n - (intOf i).toNat)
  case atStart => exact ⟨0, Nat.zero_le _, rfl, Lib.hid rfl, Lib.hid (Below.refl _ _)⟩
  case round =>
    obtain ⟨k, hk, rfl, hf, hb⟩ := hrel
    by_cases hlt : k < n
    · obtain ⟨x, hx, hxm⟩ := getD_of (l := ds) (i := k) (by rw [HN.out]; exact hlt)
      have zx := hz x hxm
      have HX := Lib.hid hx
      obtain ⟨b, o, rfl, hbB, hc⟩ := (H.out.below hb.out).at_ ribF_len (by omega)
      have HC := Lib.hid hc
      have hsz := hb.out.size
      have c0 : wr.cell? ⟨b, o + k * 3, none⟩ = some (.string x.s0) := hc k x 0 _ hx rfl
      have c1 : wr.cell? ⟨b, o + k * 3 + 1, none⟩ = some (.int .i64 x.a1) := hc k x 1 _ hx rfl
      have c2 : wr.cell? ⟨b, o + k * 3 + 2, none⟩ = some (.int .i64 x.a2) := hc k x 2 _ hx rfl
      have hk1 := Lib.hid (Blk.new wr 127 #[.string x.s0, .int .i64 x.a1, .int .i64 x.a2])
      have hb1 := Lib.hid ((Below.refl wr.heap.size wr).alloc (Nat.le_refl _) (.cells #[.string x.s0, .int .i64 x.a1, .int .i64 x.a2] 127))
      clear hc hx hxm
      cases hp : ribP x
      · have hp' : ribB x.s0 x.a1 x.a2 = false := hp
        have HF := Lib.hid (ordB_bad (p := ribP) (key := (·.s0)) (k := k) (by rw [HN.out]; exact hlt) (ordAt_no HX.out hp))
        clear hp
        go_wp2_with fail
        clear c0 c1 c2
        generalize wr.alloc (.cells #[.string x.s0, .int .i64 x.a1, .int .i64 x.a2] 127) = W at hk1 hb1 ⊢
        have hc := bel_cell hk1.out hk1.out.lt
        (refine wp_region_bel W.heap.size W (Below.refl _ _) (by kernel_rfl) (by kernel_rfl) ?_; (repeat (go_big_quiet_step ((first | (go_at_call 105; exact bel_of (Nat.le_refl _) (ribvalid_is hp' _ zx)))))); refine wpQuiet_nil ?_; rintro w1 ⟨⟨_, hb2⟩, rfl⟩)
        clear hc
        have b2 := Lib.hid (below_more hb.out (below_more hb1.out hb2 (Nat.le_refl _)) (Nat.le_refl _))
        go_wp2
        go_ret
        exact ⟨ret_bool (by rw [ribsB, HF.out]; rfl), b2.out⟩
      · have hp' : ribB x.s0 x.a1 x.a2 = true := hp
        by_cases h0 : k = 0
        · have HF := Lib.hid (ordTo_next hf.out (h0 ▸ ordAt_zero (h0 ▸ HX.out) hp))
          have dk : decide ((0 : Int) < k) = false := by simp; omega
          have dk' : decide (0 < k) = false := by simp; omega
          clear hp h0
          go_wp2_with fail
          clear c0 c1 c2
          generalize wr.alloc (.cells #[.string x.s0, .int .i64 x.a1, .int .i64 x.a2] 127) = W at hk1 hb1 ⊢
          have hc := bel_cell hk1.out hk1.out.lt
          (refine wp_region_bel W.heap.size W (Below.refl _ _) (by kernel_rfl) (by kernel_rfl) ?_; (repeat (go_big_quiet_step ((first | (go_at_call 105; exact bel_of (Nat.le_refl _) (ribvalid_is hp' _ zx)))))); refine wpQuiet_nil ?_; rintro w1 ⟨⟨_, hb2⟩, rfl⟩)
          clear hc
          have b2 := Lib.hid (below_more hb.out (below_more hb1.out hb2 (Nat.le_refl _)) (Nat.le_refl _))
          go_wp2
          go_roundw
          case rel => exact ⟨k + 1, by omega, by go_num, HF, b2⟩
          case measure => simp [intOf]; omega
        · obtain ⟨y, hy, hym⟩ := getD_of (l := ds) (i := k - 1) (by rw [HN.out]; omega)
          have HA := Lib.hid (ordAt_is (key := (·.s0)) (by omega) HX.out hy hp)
          have d0 : wr.cell? ⟨b, o + (k - 1) * 3, none⟩ = some (.string y.s0) := HC.out (k - 1) y 0 _ hy rfl
          have D0 := Lib.hid (((Below.refl wr.heap.size wr).alloc (Nat.le_refl _) (.cells #[.string x.s0, .int .i64 x.a1, .int .i64 x.a2] 127) |>.cell (p := ⟨b, o + (k - 1) * 3, none⟩) (by show b < wr.heap.size; omega)).trans d0)
          have dk : decide ((0 : Int) < k) = true := by simp; omega
          have dk' : decide (0 < k) = true := by simp; omega
          clear hp hy hym d0
          cases hl : lessB y.s0 x.s0
          · have hl' : Op.bytesLess y.s0.toList x.s0.toList = false := hl
            have HF := Lib.hid (ordB_bad (p := ribP) (key := (·.s0)) (k := k) (by rw [HN.out]; exact hlt) (HA.out.trans hl))
            clear hl
            go_wp2_with fail
            clear c0 c1 c2
            generalize wr.alloc (.cells #[.string x.s0, .int .i64 x.a1, .int .i64 x.a2] 127) = W at hk1 hb1 D0 ⊢
            have hc := bel_cell hk1.out hk1.out.lt
            have hd : ∀ u : Bel W.heap.size W, u.val.cell? ⟨b, o + (k - 1) * 3, none⟩ = some (.string y.s0) := bel_at D0.out (by have := hb1.out.size; omega)
            have e1 : IntKind.i64.wrap ((k : Int) - 1) = (k : Int) - 1 := IntWalk.i64_in _ (by omega)
            have e2 : ((k : Int) - 1).toNat = k - 1 := by omega
            have e3 : 1 ≤ (k : Int) := by omega
            have e4 : (k : Int) - 1 < n := by omega
            (refine wp_region_bel W.heap.size W (Below.refl _ _) (by kernel_rfl) (by kernel_rfl) ?_; (repeat (go_big_quiet_step ((first | (go_at_call 105; exact bel_of (Nat.le_refl _) (ribvalid_is hp' _ zx)))))); refine wpQuiet_nil ?_; rintro w1 ⟨⟨_, hb2⟩, rfl⟩)
            clear hc hd e1 e2 e3 e4
            have b2 := Lib.hid (below_more hb.out (below_more hb1.out hb2 (Nat.le_refl _)) (Nat.le_refl _))
            go_wp2
            go_ret
            exact ⟨ret_bool (by rw [ribsB, HF.out]; rfl), b2.out⟩
          · have hl' : Op.bytesLess y.s0.toList x.s0.toList = true := hl
            have HF := Lib.hid (ordTo_next hf.out (HA.out.trans hl))
            clear hl
            go_wp2_with fail
            clear c0 c1 c2
            generalize wr.alloc (.cells #[.string x.s0, .int .i64 x.a1, .int .i64 x.a2] 127) = W at hk1 hb1 D0 ⊢
            have hc := bel_cell hk1.out hk1.out.lt
            have hd : ∀ u : Bel W.heap.size W, u.val.cell? ⟨b, o + (k - 1) * 3, none⟩ = some (.string y.s0) := bel_at D0.out (by have := hb1.out.size; omega)
            have e1 : IntKind.i64.wrap ((k : Int) - 1) = (k : Int) - 1 := IntWalk.i64_in _ (by omega)
            have e2 : ((k : Int) - 1).toNat = k - 1 := by omega
            have e3 : 1 ≤ (k : Int) := by omega
            have e4 : (k : Int) - 1 < n := by omega
            (refine wp_region_bel W.heap.size W (Below.refl _ _) (by kernel_rfl) (by kernel_rfl) ?_; (repeat (go_big_quiet_step ((first | (go_at_call 105; exact bel_of (Nat.le_refl _) (ribvalid_is hp' _ zx)))))); refine wpQuiet_nil ?_; rintro w1 ⟨⟨_, hb2⟩, rfl⟩)
            clear hc hd e1 e2 e3 e4
            have b2 := Lib.hid (below_more hb.out (below_more hb1.out hb2 (Nat.le_refl _)) (Nat.le_refl _))
            go_wp2
            go_roundw
            case rel => exact ⟨k + 1, by omega, by go_num, HF, b2⟩
            case measure => simp [intOf]; omega
    · obtain rfl : k = n := by omega
      have HF : Hid (ordB ribP (·.s0) ds = true) := Lib.hid (by unfold ordB; rw [HN.out]; exact hf.out)
      go_wp2_with ((go_at_call 98; refine (few_any _ _ _ (by omega)).mono ?_; rintro e w' ⟨rfl, rfl⟩))
      go_ret
      exact ⟨ret_bool (by rw [ribsB, HF.out, HN.out]; simp; omega), hb.out⟩
set_option maxHeartbeats 2000000 in
theorem l06Ok_s (A : Option Addr) (c n : Nat) (ds : List RibD) (w : World) (hn : ds.length = n) (h : Rd w w.heap.size 3 A n (ds.flatMap ribF)) (hz : ribZ ds) (hm : n ≤ 1048576) :
    Calls Try.prog 103 #[.slice A n c] w fun e w' => e = .returned (.bool (ribsB ds)) ∧ Below w.heap.size w w' := by
  have HN := Lib.hid hn
  have H := Lib.hid h
  clear hn h
  go_enter Try.func103, Try.ntmps103
  go_wp2
  go_loopw [3] (fun i wr => ∃ k : Nat, k ≤ n ∧ i = .int .i64 k ∧ Hid (ordTo ribP (·.s0) ds k = true) ∧ Hid (Below w.heap.size w wr)) (fun i _ => n - (intOf i).toNat)
  case atStart => exact ⟨0, Nat.zero_le _, rfl, Lib.hid rfl, Lib.hid (Below.refl _ _)⟩
  case round =>
    obtain ⟨k, hk, rfl, hf, hb⟩ := hrel
    by_cases hlt : k < n
    · obtain ⟨x, hx, hxm⟩ := getD_of (l := ds) (i := k) (by rw [HN.out]; exact hlt)
      have zx := hz x hxm
      have HX := Lib.hid hx
      obtain ⟨b, o, rfl, hbB, hc⟩ := (H.out.below hb.out).at_ ribF_len (by omega)
      have HC := Lib.hid hc
      have hsz := hb.out.size
      have c0 : wr.cell? ⟨b, o + k * 3, none⟩ = some (.string x.s0) := hc k x 0 _ hx rfl
      have c1 : wr.cell? ⟨b, o + k * 3 + 1, none⟩ = some (.int .i64 x.a1) := hc k x 1 _ hx rfl
      have c2 : wr.cell? ⟨b, o + k * 3 + 2, none⟩ = some (.int .i64 x.a2) := hc k x 2 _ hx rfl
      have C0 : ∀ u : Bel wr.heap.size wr, u.val.cell? ⟨b, o + k * 3, none⟩ = some (.string x.s0) := bel_at c0 (by omega)
      have C1 : ∀ u : Bel wr.heap.size wr, u.val.cell? ⟨b, o + k * 3 + 1, none⟩ = some (.int .i64 x.a1) := bel_at c1 (by omega)
      have C2 : ∀ u : Bel wr.heap.size wr, u.val.cell? ⟨b, o + k * 3 + 2, none⟩ = some (.int .i64 x.a2) := bel_at c2 (by omega)
      clear c0 c1 c2
      have tk0 : (0 : Int) ≤ k := by omega
      have tk1 : (k : Int) < n := by omega
      have tk2 : (k : Int).toNat = k := by simp
      clear hc hx hxm
      cases hp : ribP x
      · have hp' : ribB x.s0 x.a1 x.a2 = false := hp
        have HF := Lib.hid (ordB_bad (p := ribP) (key := (·.s0)) (k := k) (by rw [HN.out]; exact hlt) (ordAt_no HX.out hp))
        clear hp
        go_wp2_with fail
        (refine wp_region_bel wr.heap.size wr (Below.refl _ _) (by kernel_rfl) (by kernel_rfl) ?_; (repeat (go_big_quiet_step ((first | (go_at_call 131; exact bel_same (riboneat_is hp' _ zx (C0 _) (C1 _) (C2 _))))))); refine wpQuiet_nil ?_; rintro w1 ⟨⟨_, hb2⟩, rfl⟩)
        clear C0 C1 C2 tk2
        have b2 := Lib.hid (below_more hb.out hb2 (Nat.le_refl _))
        go_wp2
        go_ret
        exact ⟨ret_bool (by rw [ribsB, HF.out]; rfl), b2.out⟩
      · have hp' : ribB x.s0 x.a1 x.a2 = true := hp
        by_cases h0 : k = 0
        · have HF := Lib.hid (ordTo_next hf.out (h0 ▸ ordAt_zero (h0 ▸ HX.out) hp))
          have dk : decide ((0 : Int) < k) = false := by simp; omega
          have dk' : decide (0 < k) = false := by simp; omega
          clear hp h0
          go_wp2_with fail
          (refine wp_region_bel wr.heap.size wr (Below.refl _ _) (by kernel_rfl) (by kernel_rfl) ?_; (repeat (go_big_quiet_step ((first | (go_at_call 131; exact bel_same (riboneat_is hp' _ zx (C0 _) (C1 _) (C2 _))))))); refine wpQuiet_nil ?_; rintro w1 ⟨⟨_, hb2⟩, rfl⟩)
          clear C0 C1 C2 tk2
          have b2 := Lib.hid (below_more hb.out hb2 (Nat.le_refl _))
          go_wp2
          go_roundw
          case rel => exact ⟨k + 1, by omega, by go_num, HF, b2⟩
          case measure => simp [intOf]; omega
        · obtain ⟨y, hy, hym⟩ := getD_of (l := ds) (i := k - 1) (by rw [HN.out]; omega)
          have HA := Lib.hid (ordAt_is (key := (·.s0)) (by omega) HX.out hy hp)
          have d0 : wr.cell? ⟨b, o + (k - 1) * 3, none⟩ = some (.string y.s0) := HC.out (k - 1) y 0 _ hy rfl
          have D0 := Lib.hid d0
          have dk : decide ((0 : Int) < k) = true := by simp; omega
          have dk' : decide (0 < k) = true := by simp; omega
          clear hp hy hym d0
          cases hl : lessB y.s0 x.s0
          · have hl' : Op.bytesLess y.s0.toList x.s0.toList = false := hl
            have HF := Lib.hid (ordB_bad (p := ribP) (key := (·.s0)) (k := k) (by rw [HN.out]; exact hlt) (HA.out.trans hl))
            clear hl
            go_wp2_with fail
            have hd : ∀ u : Bel wr.heap.size wr, u.val.cell? ⟨b, o + (k - 1) * 3, none⟩ = some (.string y.s0) := bel_at D0.out (by omega)
            have e1 : IntKind.i64.wrap ((k : Int) - 1) = (k : Int) - 1 := IntWalk.i64_in _ (by omega)
            have e2 : ((k : Int) - 1).toNat = k - 1 := by omega
            have e3 : 1 ≤ (k : Int) := by omega
            have e4 : (k : Int) - 1 < n := by omega
            (refine wp_region_bel wr.heap.size wr (Below.refl _ _) (by kernel_rfl) (by kernel_rfl) ?_; (repeat (go_big_quiet_step ((first | (go_at_call 131; exact bel_same (riboneat_is hp' _ zx (C0 _) (C1 _) (C2 _))))))); refine wpQuiet_nil ?_; rintro w1 ⟨⟨_, hb2⟩, rfl⟩)
            clear C0 C1 C2 tk2 hd e1 e2 e3 e4
            have b2 := Lib.hid (below_more hb.out hb2 (Nat.le_refl _))
            go_wp2
            go_ret
            exact ⟨ret_bool (by rw [ribsB, HF.out]; rfl), b2.out⟩
          · have hl' : Op.bytesLess y.s0.toList x.s0.toList = true := hl
            have HF := Lib.hid (ordTo_next hf.out (HA.out.trans hl))
            clear hl
            go_wp2_with fail
            have hd : ∀ u : Bel wr.heap.size wr, u.val.cell? ⟨b, o + (k - 1) * 3, none⟩ = some (.string y.s0) := bel_at D0.out (by omega)
            have e1 : IntKind.i64.wrap ((k : Int) - 1) = (k : Int) - 1 := IntWalk.i64_in _ (by omega)
            have e2 : ((k : Int) - 1).toNat = k - 1 := by omega
            have e3 : 1 ≤ (k : Int) := by omega
            have e4 : (k : Int) - 1 < n := by omega
            (refine wp_region_bel wr.heap.size wr (Below.refl _ _) (by kernel_rfl) (by kernel_rfl) ?_; (repeat (go_big_quiet_step ((first | (go_at_call 131; exact bel_same (riboneat_is hp' _ zx (C0 _) (C1 _) (C2 _))))))); refine wpQuiet_nil ?_; rintro w1 ⟨⟨_, hb2⟩, rfl⟩)
            clear C0 C1 C2 tk2 hd e1 e2 e3 e4
            have b2 := Lib.hid (below_more hb.out hb2 (Nat.le_refl _))
            go_wp2
            go_roundw
            case rel => exact ⟨k + 1, by omega, by go_num, HF, b2⟩
            case measure => simp [intOf]; omega
    · obtain rfl : k = n := by omega
      have HF : Hid (ordB ribP (·.s0) ds = true) := Lib.hid (by unfold ordB; rw [HN.out]; exact hf.out)
      go_wp2
      go_ret
      exact ⟨ret_bool (by rw [ribsB, HF.out, HN.out]; simp; omega), hb.out⟩
theorem ValidRibs_s (A : Option Addr) (c n : Nat) (ds : List RibD) (w : World) (hn : ds.length = n) (h : Rd w w.heap.size 3 A n (ds.flatMap ribF)) (hz : ribZ ds) (hm : n ≤ 1048576) :
    Calls Try.prog 47 #[.slice A n c] w fun e w' => e = .returned (.bool (ribsB ds)) ∧ Below w.heap.size w w' := by
  go_enter Try.func47, Try.ntmps47
  go_wp2_with fail
  refine (l06Ok_s A c n ds w hn h hz hm).mono ?_
  rintro r w1 ⟨rfl, hb1⟩
  go_wp2
  go_ret
  exact ⟨rfl, hb1⟩
def partP (x : PartD) : Bool := partB x.s0 x.a1 x.a2
def partsB (ds : List PartD) : Bool := ordB partP (·.s0) ds && inB (ds.length : Int) 1 12
set_option maxHeartbeats 1000000 in
theorem partoneat_any (s0 : ByteArray) (a1 : Int) (a2 : Int) (b o : Nat) (w : World) (z0 : s0.size ≤ maxLen) (c0 : w.cell? ⟨b, o, none⟩ = some (.string s0)) (c1 : w.cell? ⟨b, o + 1, none⟩ = some (.int .i64 a1)) (c2 : w.cell? ⟨b, o + 2, none⟩ = some (.int .i64 a2)) :
    Calls Try.prog 132 #[.pointer (some ⟨b, o, none⟩)] w fun e w' => e = .returned (.bool (partB s0 a1 a2)) ∧ w = w' := by
  cases h0 : nameB s0
  · rw [show partB s0 a1 a2 = false by simp [partB, h0]]
    go_enter Try.func132, Try.ntmps132
    go_wp2_with (first | (go_at_call 81; refine (l01Name_any _ _ (by assumption)).mono ?_; rintro e w' ⟨rfl, rfl⟩) | (go_at_call 138; refine (l11At_any _ _).mono ?_; rintro e w' ⟨rfl, rfl⟩) | (go_at_call 71; refine (l00In_any _ _ _ _).mono ?_; rintro e w' ⟨rfl, rfl⟩))
    go_ret
    exact ⟨rfl, rfl⟩
  cases h1 : inB a1 0 8000
  · rw [show partB s0 a1 a2 = false by simp [partB, h1]]
    go_enter Try.func132, Try.ntmps132
    go_wp2_with (first | (go_at_call 81; refine (l01Name_any _ _ (by assumption)).mono ?_; rintro e w' ⟨rfl, rfl⟩) | (go_at_call 138; refine (l11At_any _ _).mono ?_; rintro e w' ⟨rfl, rfl⟩) | (go_at_call 71; refine (l00In_any _ _ _ _).mono ?_; rintro e w' ⟨rfl, rfl⟩))
    go_ret
    exact ⟨rfl, rfl⟩
  cases h2 : inB a2 1 100000
  · rw [show partB s0 a1 a2 = false by simp [partB, h2]]
    go_enter Try.func132, Try.ntmps132
    go_wp2_with (first | (go_at_call 81; refine (l01Name_any _ _ (by assumption)).mono ?_; rintro e w' ⟨rfl, rfl⟩) | (go_at_call 138; refine (l11At_any _ _).mono ?_; rintro e w' ⟨rfl, rfl⟩) | (go_at_call 71; refine (l00In_any _ _ _ _).mono ?_; rintro e w' ⟨rfl, rfl⟩))
    go_ret
    exact ⟨rfl, rfl⟩
  rw [show partB s0 a1 a2 = true by simp [partB, h0, h1, h2]]
  go_enter Try.func132, Try.ntmps132
  go_wp2_with (first | (go_at_call 81; refine (l01Name_any _ _ (by assumption)).mono ?_; rintro e w' ⟨rfl, rfl⟩) | (go_at_call 138; refine (l11At_any _ _).mono ?_; rintro e w' ⟨rfl, rfl⟩) | (go_at_call 71; refine (l00In_any _ _ _ _).mono ?_; rintro e w' ⟨rfl, rfl⟩))
  go_ret
  exact ⟨rfl, rfl⟩
theorem partoneat_is {s0 : ByteArray} {a1 : Int} {a2 : Int} {b o : Nat} {v : Bool} (h : partB s0 a1 a2 = v) (w : World) (z0 : s0.size ≤ maxLen) (c0 : w.cell? ⟨b, o, none⟩ = some (.string s0)) (c1 : w.cell? ⟨b, o + 1, none⟩ = some (.int .i64 a1)) (c2 : w.cell? ⟨b, o + 2, none⟩ = some (.int .i64 a2)) :
    Calls Try.prog 132 #[.pointer (some ⟨b, o, none⟩)] w fun e w' => e = .returned (.bool v) ∧ w = w' := by
  rw [← h]; exact partoneat_any _ _ _ b o w z0 c0 c1 c2
set_option maxHeartbeats 2000000 in
theorem ValidBow_i (A : Option Addr) (c n : Nat) (ds : List PartD) (w : World) (hn : ds.length = n) (h : Rd w w.heap.size 3 A n (ds.flatMap partF)) (hz : partZ ds) (hm : n ≤ 1048576) :
    Calls Try.prog 54 #[.slice A n c] w fun e w' => e = .returned (.bool (partsB ds)) ∧ Below w.heap.size w w' := by
  have HN := Lib.hid hn
  have H := Lib.hid h
  clear hn h
  go_enter Try.func54, Try.ntmps54
  go_wp2
  go_loopw [7] (fun i wr => ∃ k : Nat, k ≤ n ∧ i = .int .i64 k ∧ Hid (ordTo partP (·.s0) ds k = true) ∧ Hid (Below w.heap.size w wr)) (fun i _ => n - (intOf i).toNat)
  case atStart => exact ⟨0, Nat.zero_le _, rfl, Lib.hid rfl, Lib.hid (Below.refl _ _)⟩
  case round =>
    obtain ⟨k, hk, rfl, hf, hb⟩ := hrel
    by_cases hlt : k < n
    · obtain ⟨x, hx, hxm⟩ := getD_of (l := ds) (i := k) (by rw [HN.out]; exact hlt)
      have zx := hz x hxm
      have HX := Lib.hid hx
      obtain ⟨b, o, rfl, hbB, hc⟩ := (H.out.below hb.out).at_ partF_len (by omega)
      have HC := Lib.hid hc
      have hsz := hb.out.size
      have c0 : wr.cell? ⟨b, o + k * 3, none⟩ = some (.string x.s0) := hc k x 0 _ hx rfl
      have c1 : wr.cell? ⟨b, o + k * 3 + 1, none⟩ = some (.int .i64 x.a1) := hc k x 1 _ hx rfl
      have c2 : wr.cell? ⟨b, o + k * 3 + 2, none⟩ = some (.int .i64 x.a2) := hc k x 2 _ hx rfl
      have hk1 := Lib.hid (Blk.new wr 133 #[.string x.s0, .int .i64 x.a1, .int .i64 x.a2])
      have hb1 := Lib.hid ((Below.refl wr.heap.size wr).alloc (Nat.le_refl _) (.cells #[.string x.s0, .int .i64 x.a1, .int .i64 x.a2] 133))
      clear hc hx hxm
      cases hp : partP x
      · have hp' : partB x.s0 x.a1 x.a2 = false := hp
        have HF := Lib.hid (ordB_bad (p := partP) (key := (·.s0)) (k := k) (by rw [HN.out]; exact hlt) (ordAt_no HX.out hp))
        clear hp
        go_wp2_with fail
        clear c0 c1 c2
        generalize wr.alloc (.cells #[.string x.s0, .int .i64 x.a1, .int .i64 x.a2] 133) = W at hk1 hb1 ⊢
        have hc := bel_cell hk1.out hk1.out.lt
        (refine wp_region_bel W.heap.size W (Below.refl _ _) (by kernel_rfl) (by kernel_rfl) ?_; (repeat (go_big_quiet_step ((first | (go_at_call 110; exact bel_of (Nat.le_refl _) (partvalid_is hp' _ zx)))))); refine wpQuiet_nil ?_; rintro w1 ⟨⟨_, hb2⟩, rfl⟩)
        clear hc
        have b2 := Lib.hid (below_more hb.out (below_more hb1.out hb2 (Nat.le_refl _)) (Nat.le_refl _))
        go_wp2
        go_ret
        exact ⟨ret_bool (by rw [partsB, HF.out]; rfl), b2.out⟩
      · have hp' : partB x.s0 x.a1 x.a2 = true := hp
        by_cases h0 : k = 0
        · have HF := Lib.hid (ordTo_next hf.out (h0 ▸ ordAt_zero (h0 ▸ HX.out) hp))
          have dk : decide ((0 : Int) < k) = false := by simp; omega
          have dk' : decide (0 < k) = false := by simp; omega
          clear hp h0
          go_wp2_with fail
          clear c0 c1 c2
          generalize wr.alloc (.cells #[.string x.s0, .int .i64 x.a1, .int .i64 x.a2] 133) = W at hk1 hb1 ⊢
          have hc := bel_cell hk1.out hk1.out.lt
          (refine wp_region_bel W.heap.size W (Below.refl _ _) (by kernel_rfl) (by kernel_rfl) ?_; (repeat (go_big_quiet_step ((first | (go_at_call 110; exact bel_of (Nat.le_refl _) (partvalid_is hp' _ zx)))))); refine wpQuiet_nil ?_; rintro w1 ⟨⟨_, hb2⟩, rfl⟩)
          clear hc
          have b2 := Lib.hid (below_more hb.out (below_more hb1.out hb2 (Nat.le_refl _)) (Nat.le_refl _))
          go_wp2
          go_roundw
          case rel => exact ⟨k + 1, by omega, by go_num, HF, b2⟩
          case measure => simp [intOf]; omega
        · obtain ⟨y, hy, hym⟩ := getD_of (l := ds) (i := k - 1) (by rw [HN.out]; omega)
          have HA := Lib.hid (ordAt_is (key := (·.s0)) (by omega) HX.out hy hp)
          have d0 : wr.cell? ⟨b, o + (k - 1) * 3, none⟩ = some (.string y.s0) := HC.out (k - 1) y 0 _ hy rfl
          have D0 := Lib.hid (((Below.refl wr.heap.size wr).alloc (Nat.le_refl _) (.cells #[.string x.s0, .int .i64 x.a1, .int .i64 x.a2] 133) |>.cell (p := ⟨b, o + (k - 1) * 3, none⟩) (by show b < wr.heap.size; omega)).trans d0)
          have dk : decide ((0 : Int) < k) = true := by simp; omega
          have dk' : decide (0 < k) = true := by simp; omega
          clear hp hy hym d0
          cases hl : lessB y.s0 x.s0
          · have hl' : Op.bytesLess y.s0.toList x.s0.toList = false := hl
            have HF := Lib.hid (ordB_bad (p := partP) (key := (·.s0)) (k := k) (by rw [HN.out]; exact hlt) (HA.out.trans hl))
            clear hl
            go_wp2_with fail
            clear c0 c1 c2
            generalize wr.alloc (.cells #[.string x.s0, .int .i64 x.a1, .int .i64 x.a2] 133) = W at hk1 hb1 D0 ⊢
            have hc := bel_cell hk1.out hk1.out.lt
            have hd : ∀ u : Bel W.heap.size W, u.val.cell? ⟨b, o + (k - 1) * 3, none⟩ = some (.string y.s0) := bel_at D0.out (by have := hb1.out.size; omega)
            have e1 : IntKind.i64.wrap ((k : Int) - 1) = (k : Int) - 1 := IntWalk.i64_in _ (by omega)
            have e2 : ((k : Int) - 1).toNat = k - 1 := by omega
            have e3 : 1 ≤ (k : Int) := by omega
            have e4 : (k : Int) - 1 < n := by omega
            (refine wp_region_bel W.heap.size W (Below.refl _ _) (by kernel_rfl) (by kernel_rfl) ?_; (repeat (go_big_quiet_step ((first | (go_at_call 110; exact bel_of (Nat.le_refl _) (partvalid_is hp' _ zx)))))); refine wpQuiet_nil ?_; rintro w1 ⟨⟨_, hb2⟩, rfl⟩)
            clear hc hd e1 e2 e3 e4
            have b2 := Lib.hid (below_more hb.out (below_more hb1.out hb2 (Nat.le_refl _)) (Nat.le_refl _))
            go_wp2
            go_ret
            exact ⟨ret_bool (by rw [partsB, HF.out]; rfl), b2.out⟩
          · have hl' : Op.bytesLess y.s0.toList x.s0.toList = true := hl
            have HF := Lib.hid (ordTo_next hf.out (HA.out.trans hl))
            clear hl
            go_wp2_with fail
            clear c0 c1 c2
            generalize wr.alloc (.cells #[.string x.s0, .int .i64 x.a1, .int .i64 x.a2] 133) = W at hk1 hb1 D0 ⊢
            have hc := bel_cell hk1.out hk1.out.lt
            have hd : ∀ u : Bel W.heap.size W, u.val.cell? ⟨b, o + (k - 1) * 3, none⟩ = some (.string y.s0) := bel_at D0.out (by have := hb1.out.size; omega)
            have e1 : IntKind.i64.wrap ((k : Int) - 1) = (k : Int) - 1 := IntWalk.i64_in _ (by omega)
            have e2 : ((k : Int) - 1).toNat = k - 1 := by omega
            have e3 : 1 ≤ (k : Int) := by omega
            have e4 : (k : Int) - 1 < n := by omega
            (refine wp_region_bel W.heap.size W (Below.refl _ _) (by kernel_rfl) (by kernel_rfl) ?_; (repeat (go_big_quiet_step ((first | (go_at_call 110; exact bel_of (Nat.le_refl _) (partvalid_is hp' _ zx)))))); refine wpQuiet_nil ?_; rintro w1 ⟨⟨_, hb2⟩, rfl⟩)
            clear hc hd e1 e2 e3 e4
            have b2 := Lib.hid (below_more hb.out (below_more hb1.out hb2 (Nat.le_refl _)) (Nat.le_refl _))
            go_wp2
            go_roundw
            case rel => exact ⟨k + 1, by omega, by go_num, HF, b2⟩
            case measure => simp [intOf]; omega
    · obtain rfl : k = n := by omega
      have HF : Hid (ordB partP (·.s0) ds = true) := Lib.hid (by unfold ordB; rw [HN.out]; exact hf.out)
      go_wp2_with ((go_at_call 75; refine (within_any _ _ _ _).mono ?_; rintro e w' ⟨rfl, rfl⟩))
      go_ret
      exact ⟨ret_bool (by rw [partsB, HF.out, HN.out]; simp), hb.out⟩
set_option maxHeartbeats 2000000 in
theorem l11Ok_s (A : Option Addr) (c n : Nat) (ds : List PartD) (w : World) (hn : ds.length = n) (h : Rd w w.heap.size 3 A n (ds.flatMap partF)) (hz : partZ ds) (hm : n ≤ 1048576) :
    Calls Try.prog 108 #[.slice A n c] w fun e w' => e = .returned (.bool (partsB ds)) ∧ Below w.heap.size w w' := by
  have HN := Lib.hid hn
  have H := Lib.hid h
  clear hn h
  go_enter Try.func108, Try.ntmps108
  go_wp2
  go_loopw [3] (fun i wr => ∃ k : Nat, k ≤ n ∧ i = .int .i64 k ∧ Hid (ordTo partP (·.s0) ds k = true) ∧ Hid (Below w.heap.size w wr)) (fun i _ => n - (intOf i).toNat)
  case atStart => exact ⟨0, Nat.zero_le _, rfl, Lib.hid rfl, Lib.hid (Below.refl _ _)⟩
  case round =>
    obtain ⟨k, hk, rfl, hf, hb⟩ := hrel
    by_cases hlt : k < n
    · obtain ⟨x, hx, hxm⟩ := getD_of (l := ds) (i := k) (by rw [HN.out]; exact hlt)
      have zx := hz x hxm
      have HX := Lib.hid hx
      obtain ⟨b, o, rfl, hbB, hc⟩ := (H.out.below hb.out).at_ partF_len (by omega)
      have HC := Lib.hid hc
      have hsz := hb.out.size
      have c0 : wr.cell? ⟨b, o + k * 3, none⟩ = some (.string x.s0) := hc k x 0 _ hx rfl
      have c1 : wr.cell? ⟨b, o + k * 3 + 1, none⟩ = some (.int .i64 x.a1) := hc k x 1 _ hx rfl
      have c2 : wr.cell? ⟨b, o + k * 3 + 2, none⟩ = some (.int .i64 x.a2) := hc k x 2 _ hx rfl
      have C0 : ∀ u : Bel wr.heap.size wr, u.val.cell? ⟨b, o + k * 3, none⟩ = some (.string x.s0) := bel_at c0 (by omega)
      have C1 : ∀ u : Bel wr.heap.size wr, u.val.cell? ⟨b, o + k * 3 + 1, none⟩ = some (.int .i64 x.a1) := bel_at c1 (by omega)
      have C2 : ∀ u : Bel wr.heap.size wr, u.val.cell? ⟨b, o + k * 3 + 2, none⟩ = some (.int .i64 x.a2) := bel_at c2 (by omega)
      clear c0 c1 c2
      have tk0 : (0 : Int) ≤ k := by omega
      have tk1 : (k : Int) < n := by omega
      have tk2 : (k : Int).toNat = k := by simp
      clear hc hx hxm
      cases hp : partP x
      · have hp' : partB x.s0 x.a1 x.a2 = false := hp
        have HF := Lib.hid (ordB_bad (p := partP) (key := (·.s0)) (k := k) (by rw [HN.out]; exact hlt) (ordAt_no HX.out hp))
        clear hp
        go_wp2_with fail
        (refine wp_region_bel wr.heap.size wr (Below.refl _ _) (by kernel_rfl) (by kernel_rfl) ?_; (repeat (go_big_quiet_step ((first | (go_at_call 132; exact bel_same (partoneat_is hp' _ zx (C0 _) (C1 _) (C2 _))))))); refine wpQuiet_nil ?_; rintro w1 ⟨⟨_, hb2⟩, rfl⟩)
        clear C0 C1 C2 tk2
        have b2 := Lib.hid (below_more hb.out hb2 (Nat.le_refl _))
        go_wp2
        go_ret
        exact ⟨ret_bool (by rw [partsB, HF.out]; rfl), b2.out⟩
      · have hp' : partB x.s0 x.a1 x.a2 = true := hp
        by_cases h0 : k = 0
        · have HF := Lib.hid (ordTo_next hf.out (h0 ▸ ordAt_zero (h0 ▸ HX.out) hp))
          have dk : decide ((0 : Int) < k) = false := by simp; omega
          have dk' : decide (0 < k) = false := by simp; omega
          clear hp h0
          go_wp2_with fail
          (refine wp_region_bel wr.heap.size wr (Below.refl _ _) (by kernel_rfl) (by kernel_rfl) ?_; (repeat (go_big_quiet_step ((first | (go_at_call 132; exact bel_same (partoneat_is hp' _ zx (C0 _) (C1 _) (C2 _))))))); refine wpQuiet_nil ?_; rintro w1 ⟨⟨_, hb2⟩, rfl⟩)
          clear C0 C1 C2 tk2
          have b2 := Lib.hid (below_more hb.out hb2 (Nat.le_refl _))
          go_wp2
          go_roundw
          case rel => exact ⟨k + 1, by omega, by go_num, HF, b2⟩
          case measure => simp [intOf]; omega
        · obtain ⟨y, hy, hym⟩ := getD_of (l := ds) (i := k - 1) (by rw [HN.out]; omega)
          have HA := Lib.hid (ordAt_is (key := (·.s0)) (by omega) HX.out hy hp)
          have d0 : wr.cell? ⟨b, o + (k - 1) * 3, none⟩ = some (.string y.s0) := HC.out (k - 1) y 0 _ hy rfl
          have D0 := Lib.hid d0
          have dk : decide ((0 : Int) < k) = true := by simp; omega
          have dk' : decide (0 < k) = true := by simp; omega
          clear hp hy hym d0
          cases hl : lessB y.s0 x.s0
          · have hl' : Op.bytesLess y.s0.toList x.s0.toList = false := hl
            have HF := Lib.hid (ordB_bad (p := partP) (key := (·.s0)) (k := k) (by rw [HN.out]; exact hlt) (HA.out.trans hl))
            clear hl
            go_wp2_with fail
            have hd : ∀ u : Bel wr.heap.size wr, u.val.cell? ⟨b, o + (k - 1) * 3, none⟩ = some (.string y.s0) := bel_at D0.out (by omega)
            have e1 : IntKind.i64.wrap ((k : Int) - 1) = (k : Int) - 1 := IntWalk.i64_in _ (by omega)
            have e2 : ((k : Int) - 1).toNat = k - 1 := by omega
            have e3 : 1 ≤ (k : Int) := by omega
            have e4 : (k : Int) - 1 < n := by omega
            (refine wp_region_bel wr.heap.size wr (Below.refl _ _) (by kernel_rfl) (by kernel_rfl) ?_; (repeat (go_big_quiet_step ((first | (go_at_call 132; exact bel_same (partoneat_is hp' _ zx (C0 _) (C1 _) (C2 _))))))); refine wpQuiet_nil ?_; rintro w1 ⟨⟨_, hb2⟩, rfl⟩)
            clear C0 C1 C2 tk2 hd e1 e2 e3 e4
            have b2 := Lib.hid (below_more hb.out hb2 (Nat.le_refl _))
            go_wp2
            go_ret
            exact ⟨ret_bool (by rw [partsB, HF.out]; rfl), b2.out⟩
          · have hl' : Op.bytesLess y.s0.toList x.s0.toList = true := hl
            have HF := Lib.hid (ordTo_next hf.out (HA.out.trans hl))
            clear hl
            go_wp2_with fail
            have hd : ∀ u : Bel wr.heap.size wr, u.val.cell? ⟨b, o + (k - 1) * 3, none⟩ = some (.string y.s0) := bel_at D0.out (by omega)
            have e1 : IntKind.i64.wrap ((k : Int) - 1) = (k : Int) - 1 := IntWalk.i64_in _ (by omega)
            have e2 : ((k : Int) - 1).toNat = k - 1 := by omega
            have e3 : 1 ≤ (k : Int) := by omega
            have e4 : (k : Int) - 1 < n := by omega
            (refine wp_region_bel wr.heap.size wr (Below.refl _ _) (by kernel_rfl) (by kernel_rfl) ?_; (repeat (go_big_quiet_step ((first | (go_at_call 132; exact bel_same (partoneat_is hp' _ zx (C0 _) (C1 _) (C2 _))))))); refine wpQuiet_nil ?_; rintro w1 ⟨⟨_, hb2⟩, rfl⟩)
            clear C0 C1 C2 tk2 hd e1 e2 e3 e4
            have b2 := Lib.hid (below_more hb.out hb2 (Nat.le_refl _))
            go_wp2
            go_roundw
            case rel => exact ⟨k + 1, by omega, by go_num, HF, b2⟩
            case measure => simp [intOf]; omega
    · obtain rfl : k = n := by omega
      have HF : Hid (ordB partP (·.s0) ds = true) := Lib.hid (by unfold ordB; rw [HN.out]; exact hf.out)
      by_cases hq : 0 < k
      · have dq : decide ((0 : Int) < k) = true := by simp; omega
        have dq' : decide (0 < k) = true := by simp; omega
        go_wp2
        go_ret
        exact ⟨ret_bool (by rw [partsB, HF.out, HN.out]; simp [inB]; omega), hb.out⟩
      · have dq : decide ((0 : Int) < k) = false := by simp; omega
        have dq' : decide (0 < k) = false := by simp; omega
        go_wp2
        go_ret
        exact ⟨ret_bool (by rw [partsB, HF.out, HN.out]; simp [inB]; omega), hb.out⟩
theorem ValidBow_s (A : Option Addr) (c n : Nat) (ds : List PartD) (w : World) (hn : ds.length = n) (h : Rd w w.heap.size 3 A n (ds.flatMap partF)) (hz : partZ ds) (hm : n ≤ 1048576) :
    Calls Try.prog 52 #[.slice A n c] w fun e w' => e = .returned (.bool (partsB ds)) ∧ Below w.heap.size w w' := by
  go_enter Try.func52, Try.ntmps52
  go_wp2_with fail
  refine (l11Ok_s A c n ds w hn h hz hm).mono ?_
  rintro r w1 ⟨rfl, hb1⟩
  go_wp2
  go_ret
  exact ⟨rfl, hb1⟩
def modeP (x : ModeD) : Bool := modeB x.s0 x.a1 x.a2
def modesB (ds : List ModeD) : Bool := ordB modeP (·.s0) ds && decide (ds.length ≤ 10)
set_option maxHeartbeats 1000000 in
theorem modeoneat_any (s0 : ByteArray) (a1 : Int) (a2 : Int) (b o : Nat) (w : World) (z0 : s0.size ≤ maxLen) (c0 : w.cell? ⟨b, o, none⟩ = some (.string s0)) (c1 : w.cell? ⟨b, o + 1, none⟩ = some (.int .i64 a1)) (c2 : w.cell? ⟨b, o + 2, none⟩ = some (.int .i64 a2)) :
    Calls Try.prog 69 #[.pointer (some ⟨b, o, none⟩)] w fun e w' => e = .returned (.bool (modeB s0 a1 a2)) ∧ w = w' := by
  cases h0 : nameB s0
  · rw [show modeB s0 a1 a2 = false by simp [modeB, h0]]
    go_enter Try.func69, Try.ntmps69
    go_wp2_with (first | (go_at_call 81; refine (l01Name_any _ _ (by assumption)).mono ?_; rintro e w' ⟨rfl, rfl⟩) | (go_at_call 114; refine (l16Tone_any _ _).mono ?_; rintro e w' ⟨rfl, rfl⟩) | (go_at_call 71; refine (l00In_any _ _ _ _).mono ?_; rintro e w' ⟨rfl, rfl⟩))
    go_ret
    exact ⟨rfl, rfl⟩
  cases h1 : inB a1 1000 100000
  · rw [show modeB s0 a1 a2 = false by simp [modeB, h1]]
    go_enter Try.func69, Try.ntmps69
    go_wp2_with (first | (go_at_call 81; refine (l01Name_any _ _ (by assumption)).mono ?_; rintro e w' ⟨rfl, rfl⟩) | (go_at_call 114; refine (l16Tone_any _ _).mono ?_; rintro e w' ⟨rfl, rfl⟩) | (go_at_call 71; refine (l00In_any _ _ _ _).mono ?_; rintro e w' ⟨rfl, rfl⟩))
    go_ret
    exact ⟨rfl, rfl⟩
  cases h2 : inB a2 1 500
  · rw [show modeB s0 a1 a2 = false by simp [modeB, h2]]
    go_enter Try.func69, Try.ntmps69
    go_wp2_with (first | (go_at_call 81; refine (l01Name_any _ _ (by assumption)).mono ?_; rintro e w' ⟨rfl, rfl⟩) | (go_at_call 114; refine (l16Tone_any _ _).mono ?_; rintro e w' ⟨rfl, rfl⟩) | (go_at_call 71; refine (l00In_any _ _ _ _).mono ?_; rintro e w' ⟨rfl, rfl⟩))
    go_ret
    exact ⟨rfl, rfl⟩
  rw [show modeB s0 a1 a2 = true by simp [modeB, h0, h1, h2]]
  go_enter Try.func69, Try.ntmps69
  go_wp2_with (first | (go_at_call 81; refine (l01Name_any _ _ (by assumption)).mono ?_; rintro e w' ⟨rfl, rfl⟩) | (go_at_call 114; refine (l16Tone_any _ _).mono ?_; rintro e w' ⟨rfl, rfl⟩) | (go_at_call 71; refine (l00In_any _ _ _ _).mono ?_; rintro e w' ⟨rfl, rfl⟩))
  go_ret
  exact ⟨rfl, rfl⟩
theorem modeoneat_is {s0 : ByteArray} {a1 : Int} {a2 : Int} {b o : Nat} {v : Bool} (h : modeB s0 a1 a2 = v) (w : World) (z0 : s0.size ≤ maxLen) (c0 : w.cell? ⟨b, o, none⟩ = some (.string s0)) (c1 : w.cell? ⟨b, o + 1, none⟩ = some (.int .i64 a1)) (c2 : w.cell? ⟨b, o + 2, none⟩ = some (.int .i64 a2)) :
    Calls Try.prog 69 #[.pointer (some ⟨b, o, none⟩)] w fun e w' => e = .returned (.bool v) ∧ w = w' := by
  rw [← h]; exact modeoneat_any _ _ _ b o w z0 c0 c1 c2
set_option maxHeartbeats 2000000 in
theorem ValidModes_i (A : Option Addr) (c n : Nat) (ds : List ModeD) (w : World) (hn : ds.length = n) (h : Rd w w.heap.size 3 A n (ds.flatMap modeF)) (hz : modeZ ds) (hm : n ≤ 1048576) :
    Calls Try.prog 59 #[.slice A n c] w fun e w' => e = .returned (.bool (modesB ds)) ∧ Below w.heap.size w w' := by
  have HN := Lib.hid hn
  have H := Lib.hid h
  clear hn h
  go_enter Try.func59, Try.ntmps59
  go_wp2
  go_loopw [7] (fun i wr => ∃ k : Nat, k ≤ n ∧ i = .int .i64 k ∧ Hid (ordTo modeP (·.s0) ds k = true) ∧ Hid (Below w.heap.size w wr)) (fun i _ => n - (intOf i).toNat)
  case atStart => exact ⟨0, Nat.zero_le _, rfl, Lib.hid rfl, Lib.hid (Below.refl _ _)⟩
  case round =>
    obtain ⟨k, hk, rfl, hf, hb⟩ := hrel
    by_cases hlt : k < n
    · obtain ⟨x, hx, hxm⟩ := getD_of (l := ds) (i := k) (by rw [HN.out]; exact hlt)
      have zx := hz x hxm
      have HX := Lib.hid hx
      obtain ⟨b, o, rfl, hbB, hc⟩ := (H.out.below hb.out).at_ modeF_len (by omega)
      have HC := Lib.hid hc
      have hsz := hb.out.size
      have c0 : wr.cell? ⟨b, o + k * 3, none⟩ = some (.string x.s0) := hc k x 0 _ hx rfl
      have c1 : wr.cell? ⟨b, o + k * 3 + 1, none⟩ = some (.int .i64 x.a1) := hc k x 1 _ hx rfl
      have c2 : wr.cell? ⟨b, o + k * 3 + 2, none⟩ = some (.int .i64 x.a2) := hc k x 2 _ hx rfl
      have hk1 := Lib.hid (Blk.new wr 34 #[.string x.s0, .int .i64 x.a1, .int .i64 x.a2])
      have hb1 := Lib.hid ((Below.refl wr.heap.size wr).alloc (Nat.le_refl _) (.cells #[.string x.s0, .int .i64 x.a1, .int .i64 x.a2] 34))
      clear hc hx hxm
      cases hp : modeP x
      · have hp' : modeB x.s0 x.a1 x.a2 = false := hp
        have HF := Lib.hid (ordB_bad (p := modeP) (key := (·.s0)) (k := k) (by rw [HN.out]; exact hlt) (ordAt_no HX.out hp))
        clear hp
        go_wp2_with fail
        clear c0 c1 c2
        generalize wr.alloc (.cells #[.string x.s0, .int .i64 x.a1, .int .i64 x.a2] 34) = W at hk1 hb1 ⊢
        have hc := bel_cell hk1.out hk1.out.lt
        (refine wp_region_bel W.heap.size W (Below.refl _ _) (by kernel_rfl) (by kernel_rfl) ?_; (repeat (go_big_quiet_step ((first | (go_at_call 73; exact bel_of (Nat.le_refl _) (modevalid_is hp' _ zx)))))); refine wpQuiet_nil ?_; rintro w1 ⟨⟨_, hb2⟩, rfl⟩)
        clear hc
        have b2 := Lib.hid (below_more hb.out (below_more hb1.out hb2 (Nat.le_refl _)) (Nat.le_refl _))
        go_wp2
        go_ret
        exact ⟨ret_bool (by rw [modesB, HF.out]; rfl), b2.out⟩
      · have hp' : modeB x.s0 x.a1 x.a2 = true := hp
        by_cases h0 : k = 0
        · have HF := Lib.hid (ordTo_next hf.out (h0 ▸ ordAt_zero (h0 ▸ HX.out) hp))
          have dk : decide ((0 : Int) < k) = false := by simp; omega
          have dk' : decide (0 < k) = false := by simp; omega
          clear hp h0
          go_wp2_with fail
          clear c0 c1 c2
          generalize wr.alloc (.cells #[.string x.s0, .int .i64 x.a1, .int .i64 x.a2] 34) = W at hk1 hb1 ⊢
          have hc := bel_cell hk1.out hk1.out.lt
          (refine wp_region_bel W.heap.size W (Below.refl _ _) (by kernel_rfl) (by kernel_rfl) ?_; (repeat (go_big_quiet_step ((first | (go_at_call 73; exact bel_of (Nat.le_refl _) (modevalid_is hp' _ zx)))))); refine wpQuiet_nil ?_; rintro w1 ⟨⟨_, hb2⟩, rfl⟩)
          clear hc
          have b2 := Lib.hid (below_more hb.out (below_more hb1.out hb2 (Nat.le_refl _)) (Nat.le_refl _))
          go_wp2
          go_roundw
          case rel => exact ⟨k + 1, by omega, by go_num, HF, b2⟩
          case measure => simp [intOf]; omega
        · obtain ⟨y, hy, hym⟩ := getD_of (l := ds) (i := k - 1) (by rw [HN.out]; omega)
          have HA := Lib.hid (ordAt_is (key := (·.s0)) (by omega) HX.out hy hp)
          have d0 : wr.cell? ⟨b, o + (k - 1) * 3, none⟩ = some (.string y.s0) := HC.out (k - 1) y 0 _ hy rfl
          have D0 := Lib.hid (((Below.refl wr.heap.size wr).alloc (Nat.le_refl _) (.cells #[.string x.s0, .int .i64 x.a1, .int .i64 x.a2] 34) |>.cell (p := ⟨b, o + (k - 1) * 3, none⟩) (by show b < wr.heap.size; omega)).trans d0)
          have dk : decide ((0 : Int) < k) = true := by simp; omega
          have dk' : decide (0 < k) = true := by simp; omega
          clear hp hy hym d0
          cases hl : lessB y.s0 x.s0
          · have hl' : Op.bytesLess y.s0.toList x.s0.toList = false := hl
            have HF := Lib.hid (ordB_bad (p := modeP) (key := (·.s0)) (k := k) (by rw [HN.out]; exact hlt) (HA.out.trans hl))
            clear hl
            go_wp2_with fail
            clear c0 c1 c2
            generalize wr.alloc (.cells #[.string x.s0, .int .i64 x.a1, .int .i64 x.a2] 34) = W at hk1 hb1 D0 ⊢
            have hc := bel_cell hk1.out hk1.out.lt
            have hd : ∀ u : Bel W.heap.size W, u.val.cell? ⟨b, o + (k - 1) * 3, none⟩ = some (.string y.s0) := bel_at D0.out (by have := hb1.out.size; omega)
            have e1 : IntKind.i64.wrap ((k : Int) - 1) = (k : Int) - 1 := IntWalk.i64_in _ (by omega)
            have e2 : ((k : Int) - 1).toNat = k - 1 := by omega
            have e3 : 1 ≤ (k : Int) := by omega
            have e4 : (k : Int) - 1 < n := by omega
            (refine wp_region_bel W.heap.size W (Below.refl _ _) (by kernel_rfl) (by kernel_rfl) ?_; (repeat (go_big_quiet_step ((first | (go_at_call 73; exact bel_of (Nat.le_refl _) (modevalid_is hp' _ zx)))))); refine wpQuiet_nil ?_; rintro w1 ⟨⟨_, hb2⟩, rfl⟩)
            clear hc hd e1 e2 e3 e4
            have b2 := Lib.hid (below_more hb.out (below_more hb1.out hb2 (Nat.le_refl _)) (Nat.le_refl _))
            go_wp2
            go_ret
            exact ⟨ret_bool (by rw [modesB, HF.out]; rfl), b2.out⟩
          · have hl' : Op.bytesLess y.s0.toList x.s0.toList = true := hl
            have HF := Lib.hid (ordTo_next hf.out (HA.out.trans hl))
            clear hl
            go_wp2_with fail
            clear c0 c1 c2
            generalize wr.alloc (.cells #[.string x.s0, .int .i64 x.a1, .int .i64 x.a2] 34) = W at hk1 hb1 D0 ⊢
            have hc := bel_cell hk1.out hk1.out.lt
            have hd : ∀ u : Bel W.heap.size W, u.val.cell? ⟨b, o + (k - 1) * 3, none⟩ = some (.string y.s0) := bel_at D0.out (by have := hb1.out.size; omega)
            have e1 : IntKind.i64.wrap ((k : Int) - 1) = (k : Int) - 1 := IntWalk.i64_in _ (by omega)
            have e2 : ((k : Int) - 1).toNat = k - 1 := by omega
            have e3 : 1 ≤ (k : Int) := by omega
            have e4 : (k : Int) - 1 < n := by omega
            (refine wp_region_bel W.heap.size W (Below.refl _ _) (by kernel_rfl) (by kernel_rfl) ?_; (repeat (go_big_quiet_step ((first | (go_at_call 73; exact bel_of (Nat.le_refl _) (modevalid_is hp' _ zx)))))); refine wpQuiet_nil ?_; rintro w1 ⟨⟨_, hb2⟩, rfl⟩)
            clear hc hd e1 e2 e3 e4
            have b2 := Lib.hid (below_more hb.out (below_more hb1.out hb2 (Nat.le_refl _)) (Nat.le_refl _))
            go_wp2
            go_roundw
            case rel => exact ⟨k + 1, by omega, by go_num, HF, b2⟩
            case measure => simp [intOf]; omega
    · obtain rfl : k = n := by omega
      have HF : Hid (ordB modeP (·.s0) ds = true) := Lib.hid (by unfold ordB; rw [HN.out]; exact hf.out)
      go_wp2_with ((go_at_call 98; refine (few_any _ _ _ (by omega)).mono ?_; rintro e w' ⟨rfl, rfl⟩))
      go_ret
      exact ⟨ret_bool (by rw [modesB, HF.out, HN.out]; simp; omega), hb.out⟩
set_option maxHeartbeats 2000000 in
theorem l16Ok_s (A : Option Addr) (c n : Nat) (ds : List ModeD) (w : World) (hn : ds.length = n) (h : Rd w w.heap.size 3 A n (ds.flatMap modeF)) (hz : modeZ ds) (hm : n ≤ 1048576) :
    Calls Try.prog 112 #[.slice A n c] w fun e w' => e = .returned (.bool (modesB ds)) ∧ Below w.heap.size w w' := by
  have HN := Lib.hid hn
  have H := Lib.hid h
  clear hn h
  go_enter Try.func112, Try.ntmps112
  go_wp2
  go_loopw [3] (fun i wr => ∃ k : Nat, k ≤ n ∧ i = .int .i64 k ∧ Hid (ordTo modeP (·.s0) ds k = true) ∧ Hid (Below w.heap.size w wr)) (fun i _ => n - (intOf i).toNat)
  case atStart => exact ⟨0, Nat.zero_le _, rfl, Lib.hid rfl, Lib.hid (Below.refl _ _)⟩
  case round =>
    obtain ⟨k, hk, rfl, hf, hb⟩ := hrel
    by_cases hlt : k < n
    · obtain ⟨x, hx, hxm⟩ := getD_of (l := ds) (i := k) (by rw [HN.out]; exact hlt)
      have zx := hz x hxm
      have HX := Lib.hid hx
      obtain ⟨b, o, rfl, hbB, hc⟩ := (H.out.below hb.out).at_ modeF_len (by omega)
      have HC := Lib.hid hc
      have hsz := hb.out.size
      have c0 : wr.cell? ⟨b, o + k * 3, none⟩ = some (.string x.s0) := hc k x 0 _ hx rfl
      have c1 : wr.cell? ⟨b, o + k * 3 + 1, none⟩ = some (.int .i64 x.a1) := hc k x 1 _ hx rfl
      have c2 : wr.cell? ⟨b, o + k * 3 + 2, none⟩ = some (.int .i64 x.a2) := hc k x 2 _ hx rfl
      have C0 : ∀ u : Bel wr.heap.size wr, u.val.cell? ⟨b, o + k * 3, none⟩ = some (.string x.s0) := bel_at c0 (by omega)
      have C1 : ∀ u : Bel wr.heap.size wr, u.val.cell? ⟨b, o + k * 3 + 1, none⟩ = some (.int .i64 x.a1) := bel_at c1 (by omega)
      have C2 : ∀ u : Bel wr.heap.size wr, u.val.cell? ⟨b, o + k * 3 + 2, none⟩ = some (.int .i64 x.a2) := bel_at c2 (by omega)
      clear c0 c1 c2
      have tk0 : (0 : Int) ≤ k := by omega
      have tk1 : (k : Int) < n := by omega
      have tk2 : (k : Int).toNat = k := by simp
      clear hc hx hxm
      cases hp : modeP x
      · have hp' : modeB x.s0 x.a1 x.a2 = false := hp
        have HF := Lib.hid (ordB_bad (p := modeP) (key := (·.s0)) (k := k) (by rw [HN.out]; exact hlt) (ordAt_no HX.out hp))
        clear hp
        go_wp2_with fail
        (refine wp_region_bel wr.heap.size wr (Below.refl _ _) (by kernel_rfl) (by kernel_rfl) ?_; (repeat (go_big_quiet_step ((first | (go_at_call 69; exact bel_same (modeoneat_is hp' _ zx (C0 _) (C1 _) (C2 _))))))); refine wpQuiet_nil ?_; rintro w1 ⟨⟨_, hb2⟩, rfl⟩)
        clear C0 C1 C2 tk2
        have b2 := Lib.hid (below_more hb.out hb2 (Nat.le_refl _))
        go_wp2
        go_ret
        exact ⟨ret_bool (by rw [modesB, HF.out]; rfl), b2.out⟩
      · have hp' : modeB x.s0 x.a1 x.a2 = true := hp
        by_cases h0 : k = 0
        · have HF := Lib.hid (ordTo_next hf.out (h0 ▸ ordAt_zero (h0 ▸ HX.out) hp))
          have dk : decide ((0 : Int) < k) = false := by simp; omega
          have dk' : decide (0 < k) = false := by simp; omega
          clear hp h0
          go_wp2_with fail
          (refine wp_region_bel wr.heap.size wr (Below.refl _ _) (by kernel_rfl) (by kernel_rfl) ?_; (repeat (go_big_quiet_step ((first | (go_at_call 69; exact bel_same (modeoneat_is hp' _ zx (C0 _) (C1 _) (C2 _))))))); refine wpQuiet_nil ?_; rintro w1 ⟨⟨_, hb2⟩, rfl⟩)
          clear C0 C1 C2 tk2
          have b2 := Lib.hid (below_more hb.out hb2 (Nat.le_refl _))
          go_wp2
          go_roundw
          case rel => exact ⟨k + 1, by omega, by go_num, HF, b2⟩
          case measure => simp [intOf]; omega
        · obtain ⟨y, hy, hym⟩ := getD_of (l := ds) (i := k - 1) (by rw [HN.out]; omega)
          have HA := Lib.hid (ordAt_is (key := (·.s0)) (by omega) HX.out hy hp)
          have d0 : wr.cell? ⟨b, o + (k - 1) * 3, none⟩ = some (.string y.s0) := HC.out (k - 1) y 0 _ hy rfl
          have D0 := Lib.hid d0
          have dk : decide ((0 : Int) < k) = true := by simp; omega
          have dk' : decide (0 < k) = true := by simp; omega
          clear hp hy hym d0
          cases hl : lessB y.s0 x.s0
          · have hl' : Op.bytesLess y.s0.toList x.s0.toList = false := hl
            have HF := Lib.hid (ordB_bad (p := modeP) (key := (·.s0)) (k := k) (by rw [HN.out]; exact hlt) (HA.out.trans hl))
            clear hl
            go_wp2_with fail
            have hd : ∀ u : Bel wr.heap.size wr, u.val.cell? ⟨b, o + (k - 1) * 3, none⟩ = some (.string y.s0) := bel_at D0.out (by omega)
            have e1 : IntKind.i64.wrap ((k : Int) - 1) = (k : Int) - 1 := IntWalk.i64_in _ (by omega)
            have e2 : ((k : Int) - 1).toNat = k - 1 := by omega
            have e3 : 1 ≤ (k : Int) := by omega
            have e4 : (k : Int) - 1 < n := by omega
            (refine wp_region_bel wr.heap.size wr (Below.refl _ _) (by kernel_rfl) (by kernel_rfl) ?_; (repeat (go_big_quiet_step ((first | (go_at_call 69; exact bel_same (modeoneat_is hp' _ zx (C0 _) (C1 _) (C2 _))))))); refine wpQuiet_nil ?_; rintro w1 ⟨⟨_, hb2⟩, rfl⟩)
            clear C0 C1 C2 tk2 hd e1 e2 e3 e4
            have b2 := Lib.hid (below_more hb.out hb2 (Nat.le_refl _))
            go_wp2
            go_ret
            exact ⟨ret_bool (by rw [modesB, HF.out]; rfl), b2.out⟩
          · have hl' : Op.bytesLess y.s0.toList x.s0.toList = true := hl
            have HF := Lib.hid (ordTo_next hf.out (HA.out.trans hl))
            clear hl
            go_wp2_with fail
            have hd : ∀ u : Bel wr.heap.size wr, u.val.cell? ⟨b, o + (k - 1) * 3, none⟩ = some (.string y.s0) := bel_at D0.out (by omega)
            have e1 : IntKind.i64.wrap ((k : Int) - 1) = (k : Int) - 1 := IntWalk.i64_in _ (by omega)
            have e2 : ((k : Int) - 1).toNat = k - 1 := by omega
            have e3 : 1 ≤ (k : Int) := by omega
            have e4 : (k : Int) - 1 < n := by omega
            (refine wp_region_bel wr.heap.size wr (Below.refl _ _) (by kernel_rfl) (by kernel_rfl) ?_; (repeat (go_big_quiet_step ((first | (go_at_call 69; exact bel_same (modeoneat_is hp' _ zx (C0 _) (C1 _) (C2 _))))))); refine wpQuiet_nil ?_; rintro w1 ⟨⟨_, hb2⟩, rfl⟩)
            clear C0 C1 C2 tk2 hd e1 e2 e3 e4
            have b2 := Lib.hid (below_more hb.out hb2 (Nat.le_refl _))
            go_wp2
            go_roundw
            case rel => exact ⟨k + 1, by omega, by go_num, HF, b2⟩
            case measure => simp [intOf]; omega
    · obtain rfl : k = n := by omega
      have HF : Hid (ordB modeP (·.s0) ds = true) := Lib.hid (by unfold ordB; rw [HN.out]; exact hf.out)
      go_wp2
      go_ret
      exact ⟨ret_bool (by rw [modesB, HF.out, HN.out]; simp; omega), hb.out⟩
theorem ValidModes_s (A : Option Addr) (c n : Nat) (ds : List ModeD) (w : World) (hn : ds.length = n) (h : Rd w w.heap.size 3 A n (ds.flatMap modeF)) (hz : modeZ ds) (hm : n ≤ 1048576) :
    Calls Try.prog 57 #[.slice A n c] w fun e w' => e = .returned (.bool (modesB ds)) ∧ Below w.heap.size w w' := by
  go_enter Try.func57, Try.ntmps57
  go_wp2_with fail
  refine (l16Ok_s A c n ds w hn h hz hm).mono ?_
  rintro r w1 ⟨rfl, hb1⟩
  go_wp2
  go_ret
  exact ⟨rfl, hb1⟩
def settingP (x : SettingD) : Bool := settingB x.s0 x.a1
def settingsB (ds : List SettingD) : Bool := ordB settingP (·.s0) ds && decide (ds.length ≤ 24)
set_option maxHeartbeats 1000000 in
theorem settingoneat_any (s0 : ByteArray) (a1 : Int) (b o : Nat) (w : World) (z0 : s0.size ≤ maxLen) (c0 : w.cell? ⟨b, o, none⟩ = some (.string s0)) (c1 : w.cell? ⟨b, o + 1, none⟩ = some (.int .i64 a1)) :
    Calls Try.prog 130 #[.pointer (some ⟨b, o, none⟩)] w fun e w' => e = .returned (.bool (settingB s0 a1)) ∧ w = w' := by
  cases h0 : nameB s0
  · rw [show settingB s0 a1 = false by simp [settingB, h0]]
    go_enter Try.func130, Try.ntmps130
    go_wp2_with (first | (go_at_call 81; refine (l01Name_any _ _ (by assumption)).mono ?_; rintro e w' ⟨rfl, rfl⟩) | (go_at_call 71; refine (l00In_any _ _ _ _).mono ?_; rintro e w' ⟨rfl, rfl⟩))
    go_ret
    exact ⟨rfl, rfl⟩
  cases h1 : inB a1 0 1000
  · rw [show settingB s0 a1 = false by simp [settingB, h1]]
    go_enter Try.func130, Try.ntmps130
    go_wp2_with (first | (go_at_call 81; refine (l01Name_any _ _ (by assumption)).mono ?_; rintro e w' ⟨rfl, rfl⟩) | (go_at_call 71; refine (l00In_any _ _ _ _).mono ?_; rintro e w' ⟨rfl, rfl⟩))
    go_ret
    exact ⟨rfl, rfl⟩
  rw [show settingB s0 a1 = true by simp [settingB, h0, h1]]
  go_enter Try.func130, Try.ntmps130
  go_wp2_with (first | (go_at_call 81; refine (l01Name_any _ _ (by assumption)).mono ?_; rintro e w' ⟨rfl, rfl⟩) | (go_at_call 71; refine (l00In_any _ _ _ _).mono ?_; rintro e w' ⟨rfl, rfl⟩))
  go_ret
  exact ⟨rfl, rfl⟩
theorem settingoneat_is {s0 : ByteArray} {a1 : Int} {b o : Nat} {v : Bool} (h : settingB s0 a1 = v) (w : World) (z0 : s0.size ≤ maxLen) (c0 : w.cell? ⟨b, o, none⟩ = some (.string s0)) (c1 : w.cell? ⟨b, o + 1, none⟩ = some (.int .i64 a1)) :
    Calls Try.prog 130 #[.pointer (some ⟨b, o, none⟩)] w fun e w' => e = .returned (.bool v) ∧ w = w' := by
  rw [← h]; exact settingoneat_any _ _ b o w z0 c0 c1
set_option maxHeartbeats 2000000 in
theorem ValidState_i (A : Option Addr) (c n : Nat) (ds : List SettingD) (w : World) (hn : ds.length = n) (h : Rd w w.heap.size 2 A n (ds.flatMap settingF)) (hz : settingZ ds) (hm : n ≤ 1048576) :
    Calls Try.prog 42 #[.slice A n c] w fun e w' => e = .returned (.bool (settingsB ds)) ∧ Below w.heap.size w w' := by
  have HN := Lib.hid hn
  have H := Lib.hid h
  clear hn h
  go_enter Try.func42, Try.ntmps42
  go_wp2
  go_loopw [7] (fun i wr => ∃ k : Nat, k ≤ n ∧ i = .int .i64 k ∧ Hid (ordTo settingP (·.s0) ds k = true) ∧ Hid (Below w.heap.size w wr)) (fun i _ => n - (intOf i).toNat)
  case atStart => exact ⟨0, Nat.zero_le _, rfl, Lib.hid rfl, Lib.hid (Below.refl _ _)⟩
  case round =>
    obtain ⟨k, hk, rfl, hf, hb⟩ := hrel
    by_cases hlt : k < n
    · obtain ⟨x, hx, hxm⟩ := getD_of (l := ds) (i := k) (by rw [HN.out]; exact hlt)
      have zx := hz x hxm
      have HX := Lib.hid hx
      obtain ⟨b, o, rfl, hbB, hc⟩ := (H.out.below hb.out).at_ settingF_len (by omega)
      have HC := Lib.hid hc
      have hsz := hb.out.size
      have c0 : wr.cell? ⟨b, o + k * 2, none⟩ = some (.string x.s0) := hc k x 0 _ hx rfl
      have c1 : wr.cell? ⟨b, o + k * 2 + 1, none⟩ = some (.int .i64 x.a1) := hc k x 1 _ hx rfl
      have hk1 := Lib.hid (Blk.new wr 120 #[.string x.s0, .int .i64 x.a1])
      have hb1 := Lib.hid ((Below.refl wr.heap.size wr).alloc (Nat.le_refl _) (.cells #[.string x.s0, .int .i64 x.a1] 120))
      clear hc hx hxm
      cases hp : settingP x
      · have hp' : settingB x.s0 x.a1 = false := hp
        have HF := Lib.hid (ordB_bad (p := settingP) (key := (·.s0)) (k := k) (by rw [HN.out]; exact hlt) (ordAt_no HX.out hp))
        clear hp
        go_wp2_with fail
        clear c0 c1
        generalize wr.alloc (.cells #[.string x.s0, .int .i64 x.a1] 120) = W at hk1 hb1 ⊢
        have hc := bel_cell hk1.out hk1.out.lt
        (refine wp_region_bel W.heap.size W (Below.refl _ _) (by kernel_rfl) (by kernel_rfl) ?_; (repeat (go_big_quiet_step ((first | (go_at_call 97; exact bel_of (Nat.le_refl _) (settingvalid_is hp' _ zx)))))); refine wpQuiet_nil ?_; rintro w1 ⟨⟨_, hb2⟩, rfl⟩)
        clear hc
        have b2 := Lib.hid (below_more hb.out (below_more hb1.out hb2 (Nat.le_refl _)) (Nat.le_refl _))
        go_wp2
        go_ret
        exact ⟨ret_bool (by rw [settingsB, HF.out]; rfl), b2.out⟩
      · have hp' : settingB x.s0 x.a1 = true := hp
        by_cases h0 : k = 0
        · have HF := Lib.hid (ordTo_next hf.out (h0 ▸ ordAt_zero (h0 ▸ HX.out) hp))
          have dk : decide ((0 : Int) < k) = false := by simp; omega
          have dk' : decide (0 < k) = false := by simp; omega
          clear hp h0
          go_wp2_with fail
          clear c0 c1
          generalize wr.alloc (.cells #[.string x.s0, .int .i64 x.a1] 120) = W at hk1 hb1 ⊢
          have hc := bel_cell hk1.out hk1.out.lt
          (refine wp_region_bel W.heap.size W (Below.refl _ _) (by kernel_rfl) (by kernel_rfl) ?_; (repeat (go_big_quiet_step ((first | (go_at_call 97; exact bel_of (Nat.le_refl _) (settingvalid_is hp' _ zx)))))); refine wpQuiet_nil ?_; rintro w1 ⟨⟨_, hb2⟩, rfl⟩)
          clear hc
          have b2 := Lib.hid (below_more hb.out (below_more hb1.out hb2 (Nat.le_refl _)) (Nat.le_refl _))
          go_wp2
          go_roundw
          case rel => exact ⟨k + 1, by omega, by go_num, HF, b2⟩
          case measure => simp [intOf]; omega
        · obtain ⟨y, hy, hym⟩ := getD_of (l := ds) (i := k - 1) (by rw [HN.out]; omega)
          have HA := Lib.hid (ordAt_is (key := (·.s0)) (by omega) HX.out hy hp)
          have d0 : wr.cell? ⟨b, o + (k - 1) * 2, none⟩ = some (.string y.s0) := HC.out (k - 1) y 0 _ hy rfl
          have D0 := Lib.hid (((Below.refl wr.heap.size wr).alloc (Nat.le_refl _) (.cells #[.string x.s0, .int .i64 x.a1] 120) |>.cell (p := ⟨b, o + (k - 1) * 2, none⟩) (by show b < wr.heap.size; omega)).trans d0)
          have dk : decide ((0 : Int) < k) = true := by simp; omega
          have dk' : decide (0 < k) = true := by simp; omega
          clear hp hy hym d0
          cases hl : lessB y.s0 x.s0
          · have hl' : Op.bytesLess y.s0.toList x.s0.toList = false := hl
            have HF := Lib.hid (ordB_bad (p := settingP) (key := (·.s0)) (k := k) (by rw [HN.out]; exact hlt) (HA.out.trans hl))
            clear hl
            go_wp2_with fail
            clear c0 c1
            generalize wr.alloc (.cells #[.string x.s0, .int .i64 x.a1] 120) = W at hk1 hb1 D0 ⊢
            have hc := bel_cell hk1.out hk1.out.lt
            have hd : ∀ u : Bel W.heap.size W, u.val.cell? ⟨b, o + (k - 1) * 2, none⟩ = some (.string y.s0) := bel_at D0.out (by have := hb1.out.size; omega)
            have e1 : IntKind.i64.wrap ((k : Int) - 1) = (k : Int) - 1 := IntWalk.i64_in _ (by omega)
            have e2 : ((k : Int) - 1).toNat = k - 1 := by omega
            have e3 : 1 ≤ (k : Int) := by omega
            have e4 : (k : Int) - 1 < n := by omega
            (refine wp_region_bel W.heap.size W (Below.refl _ _) (by kernel_rfl) (by kernel_rfl) ?_; (repeat (go_big_quiet_step ((first | (go_at_call 97; exact bel_of (Nat.le_refl _) (settingvalid_is hp' _ zx)))))); refine wpQuiet_nil ?_; rintro w1 ⟨⟨_, hb2⟩, rfl⟩)
            clear hc hd e1 e2 e3 e4
            have b2 := Lib.hid (below_more hb.out (below_more hb1.out hb2 (Nat.le_refl _)) (Nat.le_refl _))
            go_wp2
            go_ret
            exact ⟨ret_bool (by rw [settingsB, HF.out]; rfl), b2.out⟩
          · have hl' : Op.bytesLess y.s0.toList x.s0.toList = true := hl
            have HF := Lib.hid (ordTo_next hf.out (HA.out.trans hl))
            clear hl
            go_wp2_with fail
            clear c0 c1
            generalize wr.alloc (.cells #[.string x.s0, .int .i64 x.a1] 120) = W at hk1 hb1 D0 ⊢
            have hc := bel_cell hk1.out hk1.out.lt
            have hd : ∀ u : Bel W.heap.size W, u.val.cell? ⟨b, o + (k - 1) * 2, none⟩ = some (.string y.s0) := bel_at D0.out (by have := hb1.out.size; omega)
            have e1 : IntKind.i64.wrap ((k : Int) - 1) = (k : Int) - 1 := IntWalk.i64_in _ (by omega)
            have e2 : ((k : Int) - 1).toNat = k - 1 := by omega
            have e3 : 1 ≤ (k : Int) := by omega
            have e4 : (k : Int) - 1 < n := by omega
            (refine wp_region_bel W.heap.size W (Below.refl _ _) (by kernel_rfl) (by kernel_rfl) ?_; (repeat (go_big_quiet_step ((first | (go_at_call 97; exact bel_of (Nat.le_refl _) (settingvalid_is hp' _ zx)))))); refine wpQuiet_nil ?_; rintro w1 ⟨⟨_, hb2⟩, rfl⟩)
            clear hc hd e1 e2 e3 e4
            have b2 := Lib.hid (below_more hb.out (below_more hb1.out hb2 (Nat.le_refl _)) (Nat.le_refl _))
            go_wp2
            go_roundw
            case rel => exact ⟨k + 1, by omega, by go_num, HF, b2⟩
            case measure => simp [intOf]; omega
    · obtain rfl : k = n := by omega
      have HF : Hid (ordB settingP (·.s0) ds = true) := Lib.hid (by unfold ordB; rw [HN.out]; exact hf.out)
      go_wp2_with ((go_at_call 98; refine (few_any _ _ _ (by omega)).mono ?_; rintro e w' ⟨rfl, rfl⟩))
      go_ret
      exact ⟨ret_bool (by rw [settingsB, HF.out, HN.out]; simp; omega), hb.out⟩
set_option maxHeartbeats 2000000 in
theorem l27State_s (A : Option Addr) (c n : Nat) (ds : List SettingD) (w : World) (hn : ds.length = n) (h : Rd w w.heap.size 2 A n (ds.flatMap settingF)) (hz : settingZ ds) (hm : n ≤ 1048576) :
    Calls Try.prog 95 #[.slice A n c] w fun e w' => e = .returned (.bool (settingsB ds)) ∧ Below w.heap.size w w' := by
  have HN := Lib.hid hn
  have H := Lib.hid h
  clear hn h
  go_enter Try.func95, Try.ntmps95
  go_wp2
  go_loopw [3] (fun i wr => ∃ k : Nat, k ≤ n ∧ i = .int .i64 k ∧ Hid (ordTo settingP (·.s0) ds k = true) ∧ Hid (Below w.heap.size w wr)) (fun i _ => n - (intOf i).toNat)
  case atStart => exact ⟨0, Nat.zero_le _, rfl, Lib.hid rfl, Lib.hid (Below.refl _ _)⟩
  case round =>
    obtain ⟨k, hk, rfl, hf, hb⟩ := hrel
    by_cases hlt : k < n
    · obtain ⟨x, hx, hxm⟩ := getD_of (l := ds) (i := k) (by rw [HN.out]; exact hlt)
      have zx := hz x hxm
      have HX := Lib.hid hx
      obtain ⟨b, o, rfl, hbB, hc⟩ := (H.out.below hb.out).at_ settingF_len (by omega)
      have HC := Lib.hid hc
      have hsz := hb.out.size
      have c0 : wr.cell? ⟨b, o + k * 2, none⟩ = some (.string x.s0) := hc k x 0 _ hx rfl
      have c1 : wr.cell? ⟨b, o + k * 2 + 1, none⟩ = some (.int .i64 x.a1) := hc k x 1 _ hx rfl
      have C0 : ∀ u : Bel wr.heap.size wr, u.val.cell? ⟨b, o + k * 2, none⟩ = some (.string x.s0) := bel_at c0 (by omega)
      have C1 : ∀ u : Bel wr.heap.size wr, u.val.cell? ⟨b, o + k * 2 + 1, none⟩ = some (.int .i64 x.a1) := bel_at c1 (by omega)
      clear c0 c1
      have tk0 : (0 : Int) ≤ k := by omega
      have tk1 : (k : Int) < n := by omega
      have tk2 : (k : Int).toNat = k := by simp
      clear hc hx hxm
      cases hp : settingP x
      · have hp' : settingB x.s0 x.a1 = false := hp
        have HF := Lib.hid (ordB_bad (p := settingP) (key := (·.s0)) (k := k) (by rw [HN.out]; exact hlt) (ordAt_no HX.out hp))
        clear hp
        go_wp2_with fail
        (refine wp_region_bel wr.heap.size wr (Below.refl _ _) (by kernel_rfl) (by kernel_rfl) ?_; (repeat (go_big_quiet_step ((first | (go_at_call 130; exact bel_same (settingoneat_is hp' _ zx (C0 _) (C1 _))))))); refine wpQuiet_nil ?_; rintro w1 ⟨⟨_, hb2⟩, rfl⟩)
        clear C0 C1 tk2
        have b2 := Lib.hid (below_more hb.out hb2 (Nat.le_refl _))
        go_wp2
        go_ret
        exact ⟨ret_bool (by rw [settingsB, HF.out]; rfl), b2.out⟩
      · have hp' : settingB x.s0 x.a1 = true := hp
        by_cases h0 : k = 0
        · have HF := Lib.hid (ordTo_next hf.out (h0 ▸ ordAt_zero (h0 ▸ HX.out) hp))
          have dk : decide ((0 : Int) < k) = false := by simp; omega
          have dk' : decide (0 < k) = false := by simp; omega
          clear hp h0
          go_wp2_with fail
          (refine wp_region_bel wr.heap.size wr (Below.refl _ _) (by kernel_rfl) (by kernel_rfl) ?_; (repeat (go_big_quiet_step ((first | (go_at_call 130; exact bel_same (settingoneat_is hp' _ zx (C0 _) (C1 _))))))); refine wpQuiet_nil ?_; rintro w1 ⟨⟨_, hb2⟩, rfl⟩)
          clear C0 C1 tk2
          have b2 := Lib.hid (below_more hb.out hb2 (Nat.le_refl _))
          go_wp2
          go_roundw
          case rel => exact ⟨k + 1, by omega, by go_num, HF, b2⟩
          case measure => simp [intOf]; omega
        · obtain ⟨y, hy, hym⟩ := getD_of (l := ds) (i := k - 1) (by rw [HN.out]; omega)
          have HA := Lib.hid (ordAt_is (key := (·.s0)) (by omega) HX.out hy hp)
          have d0 : wr.cell? ⟨b, o + (k - 1) * 2, none⟩ = some (.string y.s0) := HC.out (k - 1) y 0 _ hy rfl
          have D0 := Lib.hid d0
          have dk : decide ((0 : Int) < k) = true := by simp; omega
          have dk' : decide (0 < k) = true := by simp; omega
          clear hp hy hym d0
          cases hl : lessB y.s0 x.s0
          · have hl' : Op.bytesLess y.s0.toList x.s0.toList = false := hl
            have HF := Lib.hid (ordB_bad (p := settingP) (key := (·.s0)) (k := k) (by rw [HN.out]; exact hlt) (HA.out.trans hl))
            clear hl
            go_wp2_with fail
            have hd : ∀ u : Bel wr.heap.size wr, u.val.cell? ⟨b, o + (k - 1) * 2, none⟩ = some (.string y.s0) := bel_at D0.out (by omega)
            have e1 : IntKind.i64.wrap ((k : Int) - 1) = (k : Int) - 1 := IntWalk.i64_in _ (by omega)
            have e2 : ((k : Int) - 1).toNat = k - 1 := by omega
            have e3 : 1 ≤ (k : Int) := by omega
            have e4 : (k : Int) - 1 < n := by omega
            (refine wp_region_bel wr.heap.size wr (Below.refl _ _) (by kernel_rfl) (by kernel_rfl) ?_; (repeat (go_big_quiet_step ((first | (go_at_call 130; exact bel_same (settingoneat_is hp' _ zx (C0 _) (C1 _))))))); refine wpQuiet_nil ?_; rintro w1 ⟨⟨_, hb2⟩, rfl⟩)
            clear C0 C1 tk2 hd e1 e2 e3 e4
            have b2 := Lib.hid (below_more hb.out hb2 (Nat.le_refl _))
            go_wp2
            go_ret
            exact ⟨ret_bool (by rw [settingsB, HF.out]; rfl), b2.out⟩
          · have hl' : Op.bytesLess y.s0.toList x.s0.toList = true := hl
            have HF := Lib.hid (ordTo_next hf.out (HA.out.trans hl))
            clear hl
            go_wp2_with fail
            have hd : ∀ u : Bel wr.heap.size wr, u.val.cell? ⟨b, o + (k - 1) * 2, none⟩ = some (.string y.s0) := bel_at D0.out (by omega)
            have e1 : IntKind.i64.wrap ((k : Int) - 1) = (k : Int) - 1 := IntWalk.i64_in _ (by omega)
            have e2 : ((k : Int) - 1).toNat = k - 1 := by omega
            have e3 : 1 ≤ (k : Int) := by omega
            have e4 : (k : Int) - 1 < n := by omega
            (refine wp_region_bel wr.heap.size wr (Below.refl _ _) (by kernel_rfl) (by kernel_rfl) ?_; (repeat (go_big_quiet_step ((first | (go_at_call 130; exact bel_same (settingoneat_is hp' _ zx (C0 _) (C1 _))))))); refine wpQuiet_nil ?_; rintro w1 ⟨⟨_, hb2⟩, rfl⟩)
            clear C0 C1 tk2 hd e1 e2 e3 e4
            have b2 := Lib.hid (below_more hb.out hb2 (Nat.le_refl _))
            go_wp2
            go_roundw
            case rel => exact ⟨k + 1, by omega, by go_num, HF, b2⟩
            case measure => simp [intOf]; omega
    · obtain rfl : k = n := by omega
      have HF : Hid (ordB settingP (·.s0) ds = true) := Lib.hid (by unfold ordB; rw [HN.out]; exact hf.out)
      go_wp2
      go_ret
      exact ⟨ret_bool (by rw [settingsB, HF.out, HN.out]; simp; omega), hb.out⟩
theorem ValidState_s (A : Option Addr) (c n : Nat) (ds : List SettingD) (w : World) (hn : ds.length = n) (h : Rd w w.heap.size 2 A n (ds.flatMap settingF)) (hz : settingZ ds) (hm : n ≤ 1048576) :
    Calls Try.prog 40 #[.slice A n c] w fun e w' => e = .returned (.bool (settingsB ds)) ∧ Below w.heap.size w w' := by
  go_enter Try.func40, Try.ntmps40
  go_wp2_with fail
  refine (l27State_s A c n ds w hn h hz hm).mono ?_
  rintro r w1 ⟨rfl, hb1⟩
  go_wp2
  go_ret
  exact ⟨rfl, hb1⟩
end Go.Proofs.Ytbgbhhaheogjcaa
