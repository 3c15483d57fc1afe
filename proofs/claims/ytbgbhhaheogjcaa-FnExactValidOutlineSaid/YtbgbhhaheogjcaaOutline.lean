/- Outlines: slices of arcs. -/
import Derived.Test.YtbgbhhaheogjcaaArcs
import Derived.Test.YtbgbhhaheogjcaaRd
set_option linter.unusedVariables false
namespace Go.Proofs.Ytbgbhhaheogjcaa
open Go.RowKit

/-- cells that stand at a place -/
def At (w : World) (b o : Nat) (l : List Value) : Prop := b < w.heap.size ∧ ∀ j u, l[j]? = some u → w.cell? ⟨b, o + j, none⟩ = some u
theorem At.below {w w' : World} {b o : Nat} {l : List Value} (h : At w b o l) (hb : Below w.heap.size w w') : At w' b o l :=
  ⟨Nat.lt_of_lt_of_le h.1 hb.size, fun j u hu => (hb.cell (p := ⟨b, o + j, none⟩) h.1).trans (h.2 j u hu)⟩
theorem eqPoint_refl (x y : Int) (w : World) :
    Calls Try.prog 129 #[ptV x y, ptV x y] w fun e w' => e = .returned (.bool true) ∧ Below w.heap.size w w' := by
  go_enter Try.func129, Try.ntmps129
  go_wp2
  go_ret
  exact ⟨rfl, ((Below.refl _ _).alloc (Nat.le_refl _) _).alloc (by simp) _⟩
structure ArcD where
  a0 : Int
  a1 : Int
  a2 : Int
  a3 : Int
  a4 : Int
  a5 : Int
def arcF (x : ArcD) : List Value := [.int .i64 x.a0, .int .i64 x.a1, .int .i64 x.a2, .int .i64 x.a3, .int .i64 x.a4, .int .i64 x.a5]
theorem arcF_len (x : ArcD) : (arcF x).length = 6 := rfl
def arcZ (ds : List ArcD) : Prop := ∀ x ∈ ds, True
theorem szArcS_any (A : Option Addr) (c n : Nat) (lf : Int) (w : World) (l0 : 0 ≤ lf) (l1 : lf ≤ 1048576) (hm : n ≤ maxLen) :
    Calls Try.prog 34 #[.slice A n c, .int .i64 lf] w (SzE n lf w) := by
  unfold maxLen at hm
  by_cases h0 : lf < n
  · go_enter Try.func34, Try.ntmps34
    go_wp2
    go_ret
    exact ⟨-1, .inl rfl, rfl, Below.refl _ _⟩
  · go_enter Try.func34, Try.ntmps34
    go_wp2
    go_ret
    exact ⟨lf - n, .inr ⟨by omega, by omega⟩, rfl, Below.refl _ _⟩
theorem infoArc : (Try.prog.info? 109).map (fun i => (i.zero, i.size, i.bytes)) = some (some (.agg #[.int .i64 0, .int .i64 0, .int .i64 0, .int .i64 0, .int .i64 0, .int .i64 0]), 6, 48) := by kernel_rfl
theorem fillArc {w : World} {g n k : Nat} {t : TypeId} {ds : List ArcD} {x : ArcD} (h : Fill w g t (n * 6) (k * 6) (ds.flatMap arcF)) (hx : ds[k]? = some x) (hk : k < n) :
    Fill ((((((w.setCell ⟨g, k * 6, none⟩ (.int .i64 x.a0)).setCell ⟨g, k * 6 + 1, none⟩ (.int .i64 x.a1)).setCell ⟨g, k * 6 + 2, none⟩ (.int .i64 x.a2)).setCell ⟨g, k * 6 + 3, none⟩ (.int .i64 x.a3)).setCell ⟨g, k * 6 + 4, none⟩ (.int .i64 x.a4)).setCell ⟨g, k * 6 + 5, none⟩ (.int .i64 x.a5)) g t (n * 6) ((k + 1) * 6) (ds.flatMap arcF) := by
  have h0 := h.step (flat_get arcF_len ds k 0 x _ hx rfl) (by omega)
  have h1 := h0.step (flat_get arcF_len ds k 1 x _ hx rfl) (by omega)
  have h2 := h1.step (flat_get arcF_len ds k 2 x _ hx rfl) (by omega)
  have h3 := h2.step (flat_get arcF_len ds k 3 x _ hx rfl) (by omega)
  have h4 := h3.step (flat_get arcF_len ds k 4 x _ hx rfl) (by omega)
  have h5 := h4.step (flat_get arcF_len ds k 5 x _ hx rfl) (by omega)
  rw [show (k + 1) * 6 = k * 6 + 6 by omega]
  exact h5
set_option maxHeartbeats 1000000 in
theorem toArcS_any (A : Option Addr) (c n : Nat) (ds : List ArcD) (w : World) (hn : ds.length = n) (h : Rd w w.heap.size 6 A n (ds.flatMap arcF)) (hm : n ≤ 1048576) :
    Calls Try.prog 36 #[.slice A n c] w fun e w' => e = .returned (.slice (some ⟨w.heap.size, 0, none⟩) n n) ∧ Blk w' w.heap.size 109 (ds.flatMap arcF).toArray ∧ Below w.heap.size w w' := by
  obtain ⟨cs, hcs, _, hmk⟩ := make_run (P := Try.prog) Try.underlying54 infoArc n (by omega) (by unfold maxLen; omega)
  have HN := Lib.hid hn
  have H := Lib.hid h
  have F0 := Lib.hid (Fill.start (xs := ds.flatMap arcF) (Blk.new w 109 cs) hcs)
  have b0 := Lib.hid ((Below.refl w.heap.size w).alloc (Nat.le_refl _) (.cells cs 109))
  clear hn h hcs
  go_enter Try.func36, Try.ntmps36
  go_wp2
  clear hmk
  generalize w.alloc (.cells cs 109) = w1 at F0 b0 ⊢
  go_loopw [4] (fun i wr => ∃ k : Nat, k ≤ n ∧ i = .int .i64 k ∧ Hid (Fill wr w.heap.size 109 (n * 6) (k * 6) (ds.flatMap arcF)) ∧ Hid (Below w.heap.size w wr)) (fun i _ => n - (intOf i).toNat)
  case atStart => exact ⟨0, Nat.zero_le _, rfl, by rw [Nat.zero_mul]; exact F0, b0⟩
  case round =>
    obtain ⟨k, hk, rfl, F, hb⟩ := hrel
    by_cases hlt : k < n
    · obtain ⟨x, hx, hxm⟩ := getD_of (l := ds) (i := k) (by rw [HN.out]; exact hlt)
      have HX := Lib.hid hx
      have hsz := F.out.lt
      obtain ⟨b, o, rfl, hbB, hc⟩ := (H.out.below hb.out).at_ arcF_len (by omega)
      have c0 : wr.cell? ⟨b, o + k * 6, none⟩ = some (.int .i64 x.a0) := hc k x 0 _ hx rfl
      have c1 : wr.cell? ⟨b, o + k * 6 + 1, none⟩ = some (.int .i64 x.a1) := hc k x 1 _ hx rfl
      have c2 : wr.cell? ⟨b, o + k * 6 + 2, none⟩ = some (.int .i64 x.a2) := hc k x 2 _ hx rfl
      have c3 : wr.cell? ⟨b, o + k * 6 + 3, none⟩ = some (.int .i64 x.a3) := hc k x 3 _ hx rfl
      have c4 : wr.cell? ⟨b, o + k * 6 + 4, none⟩ = some (.int .i64 x.a4) := hc k x 4 _ hx rfl
      have c5 : wr.cell? ⟨b, o + k * 6 + 5, none⟩ = some (.int .i64 x.a5) := hc k x 5 _ hx rfl
      clear hc hx hxm
      go_wp2_with fail
      refine (toArc_any x.a0 x.a1 x.a2 x.a3 x.a4 x.a5 _).mono ?_
      rintro e w3 ⟨rfl, hb3⟩
      have F3 := Lib.hid (F.out.below hb3 hsz)
      have b3 := Lib.hid (below_more hb.out hb3 (Nat.le_refl _))
      clear hb3 c0 c1 c2 c3 c4 c5 F hb
      obtain ⟨⟨v0, m0⟩, f0⟩ := F3.out.room (j := k * 6) (by omega)
      obtain ⟨⟨v1, m1⟩, f1⟩ := F3.out.room (j := k * 6 + 1) (by omega)
      obtain ⟨⟨v2, m2⟩, f2⟩ := F3.out.room (j := k * 6 + 2) (by omega)
      obtain ⟨⟨v3, m3⟩, f3⟩ := F3.out.room (j := k * 6 + 3) (by omega)
      obtain ⟨⟨v4, m4⟩, f4⟩ := F3.out.room (j := k * 6 + 4) (by omega)
      obtain ⟨⟨v5, m5⟩, f5⟩ := F3.out.room (j := k * 6 + 5) (by omega)
      go_wp2
      have F4 := Lib.hid (fillArc F3.out HX.out hlt)
      have b4 := Lib.hid (((((((b3.out.setCell (p := ⟨w.heap.size, k * 6, none⟩) (Nat.le_refl _) (.int .i64 x.a0)).setCell (p := ⟨w.heap.size, k * 6 + 1, none⟩) (Nat.le_refl _) (.int .i64 x.a1)).setCell (p := ⟨w.heap.size, k * 6 + 2, none⟩) (Nat.le_refl _) (.int .i64 x.a2)).setCell (p := ⟨w.heap.size, k * 6 + 3, none⟩) (Nat.le_refl _) (.int .i64 x.a3)).setCell (p := ⟨w.heap.size, k * 6 + 4, none⟩) (Nat.le_refl _) (.int .i64 x.a4)).setCell (p := ⟨w.heap.size, k * 6 + 5, none⟩) (Nat.le_refl _) (.int .i64 x.a5)))
      go_roundw
      case rel => exact ⟨k + 1, by omega, by go_num, F4, b4⟩
      case measure => simp [intOf]; omega
    · obtain rfl : k = n := by omega
      go_wp2
      go_ret
      exact ⟨rfl, F.out.done (by rw [flat_len arcF_len, HN.out]), hb.out⟩
set_option maxHeartbeats 1000000 in
theorem eqArc_refl (x : ArcD) (w : World) :
    Calls Try.prog 93 #[arcV x.a0 x.a1 x.a2 x.a3 x.a4 x.a5, arcV x.a0 x.a1 x.a2 x.a3 x.a4 x.a5] w fun e w' => e = .returned (.bool true) ∧ Below w.heap.size w w' := by
  have hk := Lib.hid ((Blk.new w 109 #[.int .i64 x.a0, .int .i64 x.a1, .int .i64 x.a2, .int .i64 x.a3, .int .i64 x.a4, .int .i64 x.a5]).alloc (.cells #[.int .i64 x.a0, .int .i64 x.a1, .int .i64 x.a2, .int .i64 x.a3, .int .i64 x.a4, .int .i64 x.a5] 109))
  have hl := Lib.hid (Blk.new (w.alloc (.cells #[.int .i64 x.a0, .int .i64 x.a1, .int .i64 x.a2, .int .i64 x.a3, .int .i64 x.a4, .int .i64 x.a5] 109)) 109 #[.int .i64 x.a0, .int .i64 x.a1, .int .i64 x.a2, .int .i64 x.a3, .int .i64 x.a4, .int .i64 x.a5])
  have b0 := Lib.hid (((Below.refl w.heap.size w).alloc (Nat.le_refl _) (.cells #[.int .i64 x.a0, .int .i64 x.a1, .int .i64 x.a2, .int .i64 x.a3, .int .i64 x.a4, .int .i64 x.a5] 109)).alloc (by simp) (.cells #[.int .i64 x.a0, .int .i64 x.a1, .int .i64 x.a2, .int .i64 x.a3, .int .i64 x.a4, .int .i64 x.a5] 109))
  rw [show (w.alloc (.cells #[.int .i64 x.a0, .int .i64 x.a1, .int .i64 x.a2, .int .i64 x.a3, .int .i64 x.a4, .int .i64 x.a5] 109)).heap.size = w.heap.size + 1 by simp] at hl
  go_enter Try.func93, Try.ntmps93
  go_wp2_with fail
  refine (eqPoint_refl _ _ _).mono ?_
  rintro r w1 ⟨rfl, hb1⟩
  have k1 := Lib.hid (hk.out.below hb1 hk.out.lt)
  have l1 := Lib.hid (hl.out.below hb1 hl.out.lt)
  have b1 := Lib.hid (below_more b0.out hb1 (Nat.le_refl _))
  clear hk hl b0 hb1
  have hc := k1.out.cell
  have hd := l1.out.cell
  go_wp2_with fail
  refine (eqPoint_refl _ _ _).mono ?_
  rintro r w2 ⟨rfl, hb2⟩
  have k2 := Lib.hid (k1.out.below hb2 k1.out.lt)
  have l2 := Lib.hid (l1.out.below hb2 l1.out.lt)
  have b2 := Lib.hid (below_more b1.out hb2 (Nat.le_refl _))
  clear k1 l1 b1 hb2 hc hd
  have hc := k2.out.cell
  have hd := l2.out.cell
  go_wp2_with fail
  refine (eqPoint_refl _ _ _).mono ?_
  rintro r w3 ⟨rfl, hb3⟩
  have b3 := Lib.hid (below_more b2.out hb3 (Nat.le_refl _))
  clear k2 l2 b2 hb3 hc hd
  go_wp2
  go_ret
  exact ⟨rfl, b3.out⟩
set_option maxHeartbeats 1000000 in
theorem eqArcS_refl (A A' : Option Addr) (c c' n : Nat) (ds : List ArcD) (w : World) (hn : ds.length = n) (h : Rd w w.heap.size 6 A n (ds.flatMap arcF)) (h' : Rd w w.heap.size 6 A' n (ds.flatMap arcF)) (hm : n ≤ 1048576) :
    Calls Try.prog 38 #[.slice A n c, .slice A' n c'] w fun e w' => e = .returned (.bool true) ∧ Below w.heap.size w w' := by
  have HN := Lib.hid hn
  have H := Lib.hid h
  have H' := Lib.hid h'
  clear hn h h'
  go_enter Try.func38, Try.ntmps38
  go_wp2
  go_loopw [5] (fun i wr => ∃ k : Nat, k ≤ n ∧ i = .int .i64 k ∧ Hid (Below w.heap.size w wr)) (fun i _ => n - (intOf i).toNat)
  case atStart => exact ⟨0, Nat.zero_le _, rfl, Lib.hid (Below.refl _ _)⟩
  case round =>
    obtain ⟨k, hk, rfl, hb⟩ := hrel
    by_cases hlt : k < n
    · obtain ⟨x, hx, hxm⟩ := getD_of (l := ds) (i := k) (by rw [HN.out]; exact hlt)
      obtain ⟨b, o, rfl, hbB, hc⟩ := (H.out.below hb.out).at_ arcF_len (by omega)
      obtain ⟨b', o', rfl, hbB', hc'⟩ := (H'.out.below hb.out).at_ arcF_len (by omega)
      have hsz := hb.out.size
      have c0 : ∀ u : Bel wr.heap.size wr, u.val.cell? ⟨b, o + k * 6, none⟩ = some (.int .i64 x.a0) := bel_at (hc k x 0 _ hx rfl) (by omega)
      have d0 : ∀ u : Bel wr.heap.size wr, u.val.cell? ⟨b', o' + k * 6, none⟩ = some (.int .i64 x.a0) := bel_at (hc' k x 0 _ hx rfl) (by omega)
      have c1 : ∀ u : Bel wr.heap.size wr, u.val.cell? ⟨b, o + k * 6 + 1, none⟩ = some (.int .i64 x.a1) := bel_at (hc k x 1 _ hx rfl) (by omega)
      have d1 : ∀ u : Bel wr.heap.size wr, u.val.cell? ⟨b', o' + k * 6 + 1, none⟩ = some (.int .i64 x.a1) := bel_at (hc' k x 1 _ hx rfl) (by omega)
      have c2 : ∀ u : Bel wr.heap.size wr, u.val.cell? ⟨b, o + k * 6 + 2, none⟩ = some (.int .i64 x.a2) := bel_at (hc k x 2 _ hx rfl) (by omega)
      have d2 : ∀ u : Bel wr.heap.size wr, u.val.cell? ⟨b', o' + k * 6 + 2, none⟩ = some (.int .i64 x.a2) := bel_at (hc' k x 2 _ hx rfl) (by omega)
      have c3 : ∀ u : Bel wr.heap.size wr, u.val.cell? ⟨b, o + k * 6 + 3, none⟩ = some (.int .i64 x.a3) := bel_at (hc k x 3 _ hx rfl) (by omega)
      have d3 : ∀ u : Bel wr.heap.size wr, u.val.cell? ⟨b', o' + k * 6 + 3, none⟩ = some (.int .i64 x.a3) := bel_at (hc' k x 3 _ hx rfl) (by omega)
      have c4 : ∀ u : Bel wr.heap.size wr, u.val.cell? ⟨b, o + k * 6 + 4, none⟩ = some (.int .i64 x.a4) := bel_at (hc k x 4 _ hx rfl) (by omega)
      have d4 : ∀ u : Bel wr.heap.size wr, u.val.cell? ⟨b', o' + k * 6 + 4, none⟩ = some (.int .i64 x.a4) := bel_at (hc' k x 4 _ hx rfl) (by omega)
      have c5 : ∀ u : Bel wr.heap.size wr, u.val.cell? ⟨b, o + k * 6 + 5, none⟩ = some (.int .i64 x.a5) := bel_at (hc k x 5 _ hx rfl) (by omega)
      have d5 : ∀ u : Bel wr.heap.size wr, u.val.cell? ⟨b', o' + k * 6 + 5, none⟩ = some (.int .i64 x.a5) := bel_at (hc' k x 5 _ hx rfl) (by omega)
      clear hc hc' hx hxm
      have hk0 : (0 : Int) ≤ k := by omega
      have hki : (k : Int) < n := by omega
      have tn : (k : Int).toNat = k := by simp
      go_wp2_with fail
      (refine wp_region_bel wr.heap.size wr (Below.refl _ _) (by kernel_rfl) (by kernel_rfl) ?_; (repeat (go_big_quiet_step ((first | (go_at_call 93; exact bel_of (Nat.le_refl _) (eqArc_refl x _)))))); refine wpQuiet_nil ?_; rintro w1 ⟨⟨_, hb1⟩, rfl⟩)
      clear c0 d0 c1 d1 c2 d2 c3 d3 c4 d4 c5 d5 tn
      have b1 := Lib.hid (below_more hb.out hb1 (Nat.le_refl _))
      go_wp2
      go_roundw
      case rel => exact ⟨k + 1, by omega, by go_num, b1⟩
      case measure => simp [intOf]; omega
    · go_wp2
      go_ret
      exact ⟨rfl, hb.out⟩
set_option maxHeartbeats 1000000 in
theorem l05One_at (a b c d e f : Int) (N o : Nat) (w : World) (hk : At w N o [.int .i64 a, .int .i64 b, .int .i64 c, .int .i64 d, .int .i64 e, .int .i64 f]) :
    Calls Try.prog 125 #[.pointer (some ⟨N, o, none⟩)] w fun r w' => r = .returned (.bool (arcB a b c d e f)) ∧ Below w.heap.size w w' := by
  have q0 : ∀ u : Bel w.heap.size w, u.val.cell? ⟨N, o, none⟩ = some (.int .i64 a) := bel_at (hk.2 0 _ rfl) hk.1
  have q1 : ∀ u : Bel w.heap.size w, u.val.cell? ⟨N, o + 1, none⟩ = some (.int .i64 b) := bel_at (hk.2 1 _ rfl) hk.1
  have q2 : ∀ u : Bel w.heap.size w, u.val.cell? ⟨N, o + 2, none⟩ = some (.int .i64 c) := bel_at (hk.2 2 _ rfl) hk.1
  have q3 : ∀ u : Bel w.heap.size w, u.val.cell? ⟨N, o + 3, none⟩ = some (.int .i64 d) := bel_at (hk.2 3 _ rfl) hk.1
  have q4 : ∀ u : Bel w.heap.size w, u.val.cell? ⟨N, o + 4, none⟩ = some (.int .i64 e) := bel_at (hk.2 4 _ rfl) hk.1
  have q5 : ∀ u : Bel w.heap.size w, u.val.cell? ⟨N, o + 5, none⟩ = some (.int .i64 f) := bel_at (hk.2 5 _ rfl) hk.1
  cases h1 : ptB a b
  · rw [arcB_1 h1]
    go_enter Try.func125, Try.ntmps125
    go_wp2_with fail
    (refine wp_region_bel w.heap.size w (Below.refl _ _) (by kernel_rfl) (by kernel_rfl) ?_; (repeat (go_big_quiet_step ((first | (go_at_call 134; exact bel_of (Nat.le_refl _) (l05Point_is (by assumption) _)))))); refine wpQuiet_nil ?_; rintro w1 ⟨⟨_, hb1⟩, rfl⟩)
    go_wp2
    go_ret
    exact ⟨rfl, hb1⟩
  cases h2 : ptB c d
  · rw [arcB_2 h2]
    go_enter Try.func125, Try.ntmps125
    go_wp2_with fail
    (refine wp_region_bel w.heap.size w (Below.refl _ _) (by kernel_rfl) (by kernel_rfl) ?_; (repeat (go_big_quiet_step ((first | (go_at_call 134; exact bel_of (Nat.le_refl _) (l05Point_is (by assumption) _)))))); refine wpQuiet_nil ?_; rintro w1 ⟨⟨_, hb1⟩, rfl⟩)
    go_wp2
    go_ret
    exact ⟨rfl, hb1⟩
  cases h3 : ptB e f
  · rw [arcB_3 h3]
    go_enter Try.func125, Try.ntmps125
    go_wp2_with fail
    (refine wp_region_bel w.heap.size w (Below.refl _ _) (by kernel_rfl) (by kernel_rfl) ?_; (repeat (go_big_quiet_step ((first | (go_at_call 134; exact bel_of (Nat.le_refl _) (l05Point_is (by assumption) _)))))); refine wpQuiet_nil ?_; rintro w1 ⟨⟨_, hb1⟩, rfl⟩)
    go_wp2
    go_ret
    exact ⟨rfl, hb1⟩
  by_cases h4 : c = e ∧ d = f
  · rw [arcB_4 h4]
    obtain ⟨rfl, rfl⟩ := h4
    go_enter Try.func125, Try.ntmps125
    go_wp2_with fail
    (refine wp_region_bel w.heap.size w (Below.refl _ _) (by kernel_rfl) (by kernel_rfl) ?_; (repeat (go_big_quiet_step ((first | (go_at_call 134; exact bel_of (Nat.le_refl _) (l05Point_is (by assumption) _)))))); refine wpQuiet_nil ?_; rintro w1 ⟨⟨_, hb1⟩, rfl⟩)
    go_wp2
    go_ret
    exact ⟨rfl, hb1⟩
  · rw [arcB_5 h1 h2 h3 h4]
    by_cases h5 : c = e
    · subst h5
      have h6 : (d == f) = false := by rw [Bool.eq_false_iff]; simpa using h4
      clear h4
      go_enter Try.func125, Try.ntmps125
      go_wp2_with fail
      (refine wp_region_bel w.heap.size w (Below.refl _ _) (by kernel_rfl) (by kernel_rfl) ?_; (repeat (go_big_quiet_step ((first | (go_at_call 134; exact bel_of (Nat.le_refl _) (l05Point_is (by assumption) _)))))); refine wpQuiet_nil ?_; rintro w1 ⟨⟨_, hb1⟩, rfl⟩)
      have hk1 := hk.below hb1
      clear q0 q1 q2 q3 q4 q5
      have q0 : ∀ u : Bel w1.heap.size w1, u.val.cell? ⟨N, o, none⟩ = some (.int .i64 a) := bel_at (hk1.2 0 _ rfl) hk1.1
      have q1 : ∀ u : Bel w1.heap.size w1, u.val.cell? ⟨N, o + 1, none⟩ = some (.int .i64 b) := bel_at (hk1.2 1 _ rfl) hk1.1
      have q2 : ∀ u : Bel w1.heap.size w1, u.val.cell? ⟨N, o + 2, none⟩ = some (.int .i64 c) := bel_at (hk1.2 2 _ rfl) hk1.1
      have q3 : ∀ u : Bel w1.heap.size w1, u.val.cell? ⟨N, o + 3, none⟩ = some (.int .i64 d) := bel_at (hk1.2 3 _ rfl) hk1.1
      have q4 : ∀ u : Bel w1.heap.size w1, u.val.cell? ⟨N, o + 4, none⟩ = some (.int .i64 c) := bel_at (hk1.2 4 _ rfl) hk1.1
      have q5 : ∀ u : Bel w1.heap.size w1, u.val.cell? ⟨N, o + 5, none⟩ = some (.int .i64 f) := bel_at (hk1.2 5 _ rfl) hk1.1
      clear hk1
      go_wp2_with fail
      (refine wp_region_bel w1.heap.size w1 (Below.refl _ _) (by kernel_rfl) (by kernel_rfl) ?_; (repeat (go_big_quiet_step ((first | (go_at_call 135; exact bel_of (Nat.le_refl _) (l05Square_any _ _ _ _ _ (by assumption) (by assumption))))))); refine wpQuiet_nil ?_; rintro w2 ⟨⟨_, hb2⟩, rfl⟩)
      go_wp2
      go_ret
      exact ⟨rfl, below_more' hb1 hb2⟩
    · have h6 : (c == e) = false := by rw [Bool.eq_false_iff]; simpa using h5
      clear h4 h5
      go_enter Try.func125, Try.ntmps125
      go_wp2_with fail
      (refine wp_region_bel w.heap.size w (Below.refl _ _) (by kernel_rfl) (by kernel_rfl) ?_; (repeat (go_big_quiet_step ((first | (go_at_call 134; exact bel_of (Nat.le_refl _) (l05Point_is (by assumption) _)))))); refine wpQuiet_nil ?_; rintro w1 ⟨⟨_, hb1⟩, rfl⟩)
      have hk1 := hk.below hb1
      clear q0 q1 q2 q3 q4 q5
      have q0 : ∀ u : Bel w1.heap.size w1, u.val.cell? ⟨N, o, none⟩ = some (.int .i64 a) := bel_at (hk1.2 0 _ rfl) hk1.1
      have q1 : ∀ u : Bel w1.heap.size w1, u.val.cell? ⟨N, o + 1, none⟩ = some (.int .i64 b) := bel_at (hk1.2 1 _ rfl) hk1.1
      have q2 : ∀ u : Bel w1.heap.size w1, u.val.cell? ⟨N, o + 2, none⟩ = some (.int .i64 c) := bel_at (hk1.2 2 _ rfl) hk1.1
      have q3 : ∀ u : Bel w1.heap.size w1, u.val.cell? ⟨N, o + 3, none⟩ = some (.int .i64 d) := bel_at (hk1.2 3 _ rfl) hk1.1
      have q4 : ∀ u : Bel w1.heap.size w1, u.val.cell? ⟨N, o + 4, none⟩ = some (.int .i64 e) := bel_at (hk1.2 4 _ rfl) hk1.1
      have q5 : ∀ u : Bel w1.heap.size w1, u.val.cell? ⟨N, o + 5, none⟩ = some (.int .i64 f) := bel_at (hk1.2 5 _ rfl) hk1.1
      clear hk1
      go_wp2_with fail
      (refine wp_region_bel w1.heap.size w1 (Below.refl _ _) (by kernel_rfl) (by kernel_rfl) ?_; (repeat (go_big_quiet_step ((first | (go_at_call 135; exact bel_of (Nat.le_refl _) (l05Square_any _ _ _ _ _ (by assumption) (by assumption))))))); refine wpQuiet_nil ?_; rintro w2 ⟨⟨_, hb2⟩, rfl⟩)
      go_wp2
      go_ret
      exact ⟨rfl, below_more' hb1 hb2⟩
theorem l05One_atis {a b c d e f : Int} {N o : Nat} {r : Bool} (h : arcB a b c d e f = r) (w : World) (hk : At w N o [.int .i64 a, .int .i64 b, .int .i64 c, .int .i64 d, .int .i64 e, .int .i64 f]) :
    Calls Try.prog 125 #[.pointer (some ⟨N, o, none⟩)] w fun e w' => e = .returned (.bool r) ∧ Below w.heap.size w w' := by
  rw [← h]; exact l05One_at _ _ _ _ _ _ N o w hk
theorem mod_is {k n : Nat} (h : k < n) : (k + 1) % n < n ∧ ((k : Int) + 1).tmod n = ((k + 1) % n : Nat) ∧ ((k : Int) + 1) % n = ((k + 1) % n : Nat) := by
  refine ⟨Nat.mod_lt _ (by omega), ?_, by push_cast; rfl⟩
  rw [Int.tmod_eq_emod_of_nonneg (by omega)]; push_cast; rfl
def arcP (x : ArcD) : Bool := arcB x.a0 x.a1 x.a2 x.a3 x.a4 x.a5
def outAt (ds : List ArcD) (i : Nat) : Bool := (ds[i]?.bind fun x => ds[(i + 1) % ds.length]?.map fun y => arcP x && ((x.a4 == y.a2) && (x.a5 == y.a3))).getD true
def outTo (ds : List ArcD) : Nat → Bool
  | 0 => true
  | i + 1 => outTo ds i && outAt ds i
def outB (ds : List ArcD) : Bool := outTo ds ds.length && inB (ds.length : Int) 2 16
theorem outAt_is {ds : List ArcD} {i n : Nat} {x y : ArcD} (hn : ds.length = n) (hx : ds[i]? = some x) (hy : ds[(i + 1) % n]? = some y) : outAt ds i = (arcP x && ((x.a4 == y.a2) && (x.a5 == y.a3))) := by subst hn; simp [outAt, hx, hy]
theorem outTo_bad {ds : List ArcD} {k n : Nat} (h : k < n) (g : outAt ds k = false) : outTo ds n = false := by
  induction n with
  | zero => omega
  | succ n ih =>
    rw [outTo]
    rcases Nat.lt_or_ge k n with hl | hl
    · rw [ih hl]; rfl
    · obtain rfl : k = n := by omega
      rw [g, Bool.and_false]
theorem outB_bad {ds : List ArcD} {k : Nat} (h : k < ds.length) (g : outAt ds k = false) : outB ds = false := by rw [outB, outTo_bad h g, Bool.false_and]
theorem outTo_next {ds : List ArcD} {k : Nat} (h : outTo ds k = true) (g : outAt ds k = true) : outTo ds (k + 1) = true := by rw [outTo, h, g]; rfl
theorem outB_end {ds : List ArcD} {n : Nat} (h : ds.length = n) (g : outTo ds n = true) : outB ds = inB (n : Int) 2 16 := by subst h; rw [outB, g, Bool.true_and]
set_option maxHeartbeats 1000000 in
theorem next_any (b o c n k : Nat) (y : ArcD) (w : World) (hk : k < n) (hn : n ≤ 1048576) (d0 : w.cell? ⟨b, o + (k + 1) % n * 6, none⟩ = some (.int .i64 y.a0)) (d1 : w.cell? ⟨b, o + (k + 1) % n * 6 + 1, none⟩ = some (.int .i64 y.a1)) (d2 : w.cell? ⟨b, o + (k + 1) % n * 6 + 2, none⟩ = some (.int .i64 y.a2)) (d3 : w.cell? ⟨b, o + (k + 1) % n * 6 + 3, none⟩ = some (.int .i64 y.a3)) (d4 : w.cell? ⟨b, o + (k + 1) % n * 6 + 4, none⟩ = some (.int .i64 y.a4)) (d5 : w.cell? ⟨b, o + (k + 1) % n * 6 + 5, none⟩ = some (.int .i64 y.a5)) :
    Calls Try.prog 92 #[.slice (some ⟨b, o, none⟩) n c, .int .i64 k] w fun e w' => e = .returned (.agg #[.int .i64 y.a0, .int .i64 y.a1, .int .i64 y.a2, .int .i64 y.a3, .int .i64 y.a4, .int .i64 y.a5]) ∧ Below w.heap.size w w' := by
  obtain ⟨q1, q2, q3⟩ := mod_is hk
  clear q2 q3
  have r0 : 0 ≤ ((k : Int) + 1) % n := Int.emod_nonneg _ (by omega)
  have r1 : ((k : Int) + 1) % n < n := Int.emod_lt_of_pos _ (by omega)
  have hlt : ∀ j, w.cell? ⟨b, o + (k + 1) % n * 6, none⟩ = some j → b < w.heap.size := fun j h => World.block_lt_of_cell? w ⟨b, o + (k + 1) % n * 6, none⟩ h
  have hb := hlt _ d0
  clear hlt
  go_enter Try.func92, Try.ntmps92
  go_wp2
  refine bodyPost_ret (v := arcV y.a0 y.a1 y.a2 y.a3 y.a4 y.a5) (by simp [results, Try.results92, go_sem]) rfl ⟨rfl, ?_⟩
  exact (Below.refl _ _).alloc (Nat.le_refl _) _
end Go.Proofs.Ytbgbhhaheogjcaa
