/- The law of MixPots. -/
import Derived.Test.YtmngjlamnkkaeaaMix
import Derived.Test.YtmngjlamnkkaeaaOpenT
set_option linter.unusedVariables false
set_option linter.unusedSimpArgs false
namespace Go.Proofs.Ytmngjlamnkkaeaa
open Go.RowKit

def SL (ga gb : Nat) (ca cb : Array Value) (w : World) : Prop := (∀ i, w.cell? ⟨ga, i, none⟩ = ca[i]?) ∧ (∀ i, w.cell? ⟨gb, i, none⟩ = cb[i]?) ∧ True
/-- the two boxes of the law -/
def Box2 (w wa : World) (ga gb : Nat) (ca cb : Array Value) : Prop :=
  w.heap.size = ga ∧ ga < gb ∧ Blk wa ga 23 ca ∧ Blk wa gb 23 cb ∧ Below w.heap.size w wa
theorem box2 (w : World) (ca cb : Array Value) : Box2 w ((w.alloc (.cells ca 23)).alloc (.cells cb 23)) w.heap.size (w.heap.size + 1) ca cb := by
  refine ⟨rfl, by omega, (Blk.new _ _ _).alloc _, ?_, ((Below.refl _ _).alloc (Nat.le_refl _) _).alloc (by simp) _⟩
  have := Blk.new (w.alloc (.cells ca 23)) 23 cb
  simpa using this
section
variable {w wa wb : World} {ga gb gn : Nat} {ca cb : Array Value}
theorem Box2.next (h : Box2 w wa ga gb ca cb) (hb : Below wa.heap.size wa wb) : Box2 w wb ga gb ca cb := by
  obtain ⟨h1, h2, h4, h5, h7⟩ := h
  exact ⟨h1, h2, h4.below hb h4.lt, h5.below hb h5.lt, below_more h7 hb (Nat.le_refl _)⟩
theorem Box2.drew (h : Box2 w wa ga gb ca cb) : Box2 w wa.drew ga gb ca cb := by
  obtain ⟨h1, h2, h4, h5, h7⟩ := h
  exact ⟨h1, h2, h4, h5, below_drew h7⟩
theorem Box2.far (h : Box2 w wa ga gb ca cb) {p : Addr} (hp : gb < p.block) (u : Value) : Box2 w (wa.setCell p u) ga gb ca cb := by
  obtain ⟨h1, h2, h4, h5, h7⟩ := h
  exact ⟨h1, h2, h4.far (by omega) u, h5.far (by omega) u, h7.setCell (by omega) u⟩
theorem Box2.far5 (h : Box2 w wa ga gb ca cb) (hp : gb < gn) (x0 x1 x2 x3 x4 : Value) :
    Box2 w (((((wa.setCell ⟨gn, 0, none⟩ x0).setCell ⟨gn, 1, none⟩ x1).setCell ⟨gn, 2, none⟩ x2).setCell ⟨gn, 3, none⟩ x3).setCell ⟨gn, 4, none⟩ x4) ga gb ca cb :=
  ((((h.far (p := ⟨gn, 0, none⟩) hp x0).far (p := ⟨gn, 1, none⟩) hp x1).far (p := ⟨gn, 2, none⟩) hp x2).far (p := ⟨gn, 3, none⟩) hp x3).far (p := ⟨gn, 4, none⟩) hp x4
end
theorem Blk.far5 {w : World} {g gn : Nat} {t : TypeId} {cs : Array Value} (h : Blk w g t cs) (hp : g < gn) (x0 x1 x2 x3 x4 : Value) :
    Blk (((((w.setCell ⟨gn, 0, none⟩ x0).setCell ⟨gn, 1, none⟩ x1).setCell ⟨gn, 2, none⟩ x2).setCell ⟨gn, 3, none⟩ x3).setCell ⟨gn, 4, none⟩ x4) g t cs :=
  ((((h.far (p := ⟨gn, 0, none⟩) (by simp; omega) x0).far (p := ⟨gn, 1, none⟩) (by simp; omega) x1).far (p := ⟨gn, 2, none⟩) (by simp; omega) x2).far (p := ⟨gn, 3, none⟩) (by simp; omega) x3).far (p := ⟨gn, 4, none⟩) (by simp; omega) x4
theorem eqPot_refl (r0 : ByteArray) (r1 r2 r3 r4 : Int) (w : World) :
    Calls Try.prog 8 #[potV r0 r1 r2 r3 r4, potV r0 r1 r2 r3 r4] w fun e w' => e = .returned (.bool true) ∧ Below w.heap.size w w' := by
  go_enter Try.func8, Try.ntmps8
  go_wp2
  go_ret
  exact ⟨rfl, ((Below.refl _ _).alloc (Nat.le_refl _) _).alloc (by simp) _⟩
set_option maxRecDepth 100000 in
set_option maxHeartbeats 8000000 in
theorem FnExactMixPots_walk (v0 v1 v2 : Value) (w : World) (i0 : IsPot w v0) (i1 : IsPot w v1) (i2 : IsStr w v2) :
    Calls Try.prog 3 #[v0, v1, v2] w fun e w' => e = .returned (.bool true) ∧ Below w.heap.size w w' := by
  obtain ⟨s0, a1, a2, a3, a4, rfl, z0, _⟩ := i0
  obtain ⟨t0, b1, b2, b3, b4, rfl, z1, _⟩ := i1
  obtain ⟨id, rfl, z2⟩ := i2
  obtain ⟨res, hres⟩ : ∃ x, x = mixL s0 a1 a2 a3 a4 t0 b1 b2 b3 b4 id := ⟨_, rfl⟩
  obtain ⟨r0, r1, r2, r3, r4, rc⟩ := res
  have CS : Hid (∀ w, Calls Try.prog 5 #[potV s0 a1 a2 a3 a4, potV t0 b1 b2 b3 b4, .string id] w fun e w' => e = .returned (.tuple #[potV r0 r1 r2 r3 r4, .int .i64 rc]) ∧ Below w.heap.size w w') := Lib.hid fun w => by
    have := MixPots_s s0 a1 a2 a3 a4 t0 b1 b2 b3 b4 id w z0 z1 z2
    rw [← hres] at this; exact this
  have CI : Hid (∀ w, Calls Try.prog 7 #[potV s0 a1 a2 a3 a4, potV t0 b1 b2 b3 b4, .string id] w fun e w' => e = .returned (.tuple #[potV r0 r1 r2 r3 r4, .int .i64 rc]) ∧ Below w.heap.size w w') := Lib.hid fun w => by
    have := MixPots_i s0 a1 a2 a3 a4 t0 b1 b2 b3 b4 id w z0 z1 z2
    rw [← hres] at this; exact this
  clear hres
  have HX := box2 w (potC0 s0 a1 a2 a3 a4) (potC0 t0 b1 b2 b3 b4)
  obtain ⟨g1, hg1⟩ : ∃ x, x = w.heap.size + 1 := ⟨_, rfl⟩
  obtain ⟨g0, hg0⟩ : ∃ x, x = w.heap.size := ⟨_, rfl⟩
  rw [← hg1, ← hg0] at HX
  have HX := Lib.hid HX
  have y0 := z0
  have y1 := z1
  have y2 := z2
  unfold maxLen at y0 y1 y2
  go_enter Try.func3, Try.ntmps3
  go_upto_region 1 with fail
  rw [← hg1, ← hg0]
  clear hg1 hg0
  generalize (w.alloc (.cells (potC0 s0 a1 a2 a3 a4) 23)).alloc (.cells (potC0 t0 b1 b2 b3 b4) 23) = wa at HX ⊢
  by_cases q0 : (1048576 : Int) < id.size
  · go_wp2
    go_ret
    exact ⟨rfl, HX.out.2.2.2.2⟩
  have hca := HX.out.2.2.1.cell
  by_cases q1 : (s0.size : Int) ≤ 1048576
  case neg =>
    go_wp2_with fail
    refine (szPot_no s0 a1 a2 a3 a4 _ wa (by omega) (by omega) z0 (by omega)).mono ?_
    rintro r w1 ⟨rfl, hb1⟩
    have HX := Lib.hid (HX.out.next hb1)
    go_wp2
    go_ret
    exact ⟨rfl, HX.out.2.2.2.2⟩
  go_wp2_with fail
  refine (szPot_ok s0 a1 a2 a3 a4 _ wa (by omega) (by omega) z0 q1).mono ?_
  rintro r w1 ⟨rfl, hb1⟩
  have HX := Lib.hid (HX.out.next hb1)
  clear hca hb1
  have hcb := HX.out.2.2.2.1.cell
  obtain ⟨lf, hlf⟩ : ∃ x, x = (1048576 : Int) - (s0.size : Int) := ⟨_, rfl⟩
  have l0 : 0 ≤ lf ∧ lf ≤ 1048576 := by omega
  rw [← hlf]
  clear hlf
  by_cases q2 : (t0.size : Int) ≤ lf
  case neg =>
    go_wp2_with fail
    refine (szPot_no t0 b1 b2 b3 b4 _ w1 l0.1 l0.2 z1 (by omega)).mono ?_
    rintro r w2 ⟨rfl, hb2⟩
    have HX := Lib.hid (HX.out.next hb2)
    go_wp2
    go_ret
    exact ⟨rfl, HX.out.2.2.2.2⟩
  go_wp2_with fail
  refine (szPot_ok t0 b1 b2 b3 b4 _ w1 l0.1 l0.2 z1 q2).mono ?_
  rintro r w2 ⟨rfl, hb2⟩
  have HX := Lib.hid (HX.out.next hb2)
  clear hcb hb2
  have l1 : 0 ≤ lf - (t0.size : Int) := by omega
  obtain ⟨ca, hca⟩ : ∃ x, x = potC0 s0 a1 a2 a3 a4 := ⟨_, rfl⟩
  obtain ⟨cb, hcb⟩ : ∃ x, x = potC0 t0 b1 b2 b3 b4 := ⟨_, rfl⟩
  subst hca hcb
  go_upto_region 10 with fail
  clear y0 y1 y2 q0 q1 q2 l0 l1
  go_cut [8, 9] from 25 to 33 (fun p c wz => ∃ gn : Nat, p = .pointer (some ⟨gn, 0, none⟩) ∧ c = .int .i64 rc ∧ Hid (Blk wz gn 25 (potC0 r0 r1 r2 r3 r4)) ∧ Hid (Box2 w wz g0 g1 (potC0 s0 a1 a2 a3 a4) (potC0 t0 b1 b2 b3 b4)))
  case first =>
    refine wp_region_S (SL g0 g1 (potC0 s0 a1 a2 a3 a4) (potC0 t0 b1 b2 b3 b4)) 10 (by kernel_rfl) ?_
    have HX := Lib.hid HX.out.drew
    generalize w2.drew = wd at HX ⊢
    have HS : SL g0 g1 (potC0 s0 a1 a2 a3 a4) (potC0 t0 b1 b2 b3 b4) wd := ⟨HX.out.2.2.1.cell, HX.out.2.2.2.1.cell, trivial⟩
    (refine wpAnyS_take 0 ?_ rfl (by kernel_rfl) (by kernel_rfl) (by kernel_rfl) (by kernel_rfl) (by kernel_rfl) (by kernel_rfl) (fun _ _ _ h => h) (by rfl) ?_ HS ?_; rotate_left; (· (intro w hSw; obtain ⟨s1, s2, s3⟩ := hSw; go_simp; (try with_reducible rfl))); try simp only [Act.put, List.setIfInBounds_toArray, List.set_cons_zero, List.set_cons_succ])
    (refine wpAnyS_take 2 ?_ rfl (by kernel_rfl) (by kernel_rfl) (by kernel_rfl) (by kernel_rfl) (by kernel_rfl) (by kernel_rfl) (fun _ _ _ h => h) (by rfl) ?_ HS ?_; rotate_left; (· (intro w hSw; obtain ⟨s1, s2, s3⟩ := hSw; go_simp; (try with_reducible rfl))); try simp only [Act.put, List.setIfInBounds_toArray, List.set_cons_zero, List.set_cons_succ])
    (refine wpAnyS_take0 4 ?_ rfl (by kernel_rfl) (by kernel_rfl) (by kernel_rfl) (by kernel_rfl) (fun _ _ _ h => h) (by rfl) ?_ (fun _ => HS) ?_; rotate_left; (· (intro w; go_simp; (try with_reducible rfl))); try simp only [Act.put, List.setIfInBounds_toArray, List.set_cons_zero, List.set_cons_succ])
    refine wpAnyS_two 1 9 rfl rfl (by kernel_rfl) (by rfl) (by rfl) ?_ ?_
    · intro K hK
      go_simp
      refine (toPot_any _ _ _ _ _ _).mono ?_
      rintro r wx1 ⟨rfl, hb⟩
      have HX := Lib.hid (HX.out.next hb)
      have HS : SL g0 g1 (potC0 s0 a1 a2 a3 a4) (potC0 t0 b1 b2 b3 b4) wx1 := ⟨HX.out.2.2.1.cell, HX.out.2.2.2.1.cell, trivial⟩
      try simp only [Act.put, List.setIfInBounds_toArray, List.set_cons_zero, List.set_cons_succ]
      refine hK _ _ (fun _ => HS) ?_
      clear hK hb
      refine wpAnyS_two 3 9 rfl rfl (by kernel_rfl) (by rfl) (by rfl) ?_ ?_
      · intro K hK
        go_simp
        refine (toPot_any _ _ _ _ _ _).mono ?_
        rintro r wx3 ⟨rfl, hb⟩
        have HX := Lib.hid (HX.out.next hb)
        have HS : SL g0 g1 (potC0 s0 a1 a2 a3 a4) (potC0 t0 b1 b2 b3 b4) wx3 := ⟨HX.out.2.2.1.cell, HX.out.2.2.2.1.cell, trivial⟩
        try simp only [Act.put, List.setIfInBounds_toArray, List.set_cons_zero, List.set_cons_succ]
        refine hK _ _ (fun _ => HS) ?_
        clear hK hb
        refine wpAnyS_two 5 9 rfl rfl (by kernel_rfl) (by rfl) (by rfl) ?_ ?_
        · intro K hK
          go_simp
          refine (CS.out _).mono ?_
          rintro r wx5 ⟨rfl, hb⟩
          have HX := Lib.hid (HX.out.next hb)
          have HS : SL g0 g1 (potC0 s0 a1 a2 a3 a4) (potC0 t0 b1 b2 b3 b4) wx5 := ⟨HX.out.2.2.1.cell, HX.out.2.2.2.1.cell, trivial⟩
          try simp only [Act.put, List.setIfInBounds_toArray, List.set_cons_zero, List.set_cons_succ]
          refine hK _ _ (fun _ => HS) ?_
          clear hK hb
          (refine wpAnyS_take0 6 ?_ rfl (by kernel_rfl) (by kernel_rfl) (by kernel_rfl) (by kernel_rfl) (fun _ _ _ h => h) (by rfl) ?_ (fun _ => HS) ?_; rotate_left; (· (intro w; go_simp; (try with_reducible rfl))); try simp only [Act.put, List.setIfInBounds_toArray, List.set_cons_zero, List.set_cons_succ])
          (refine wpAnyS_take0 7 ?_ rfl (by kernel_rfl) (by kernel_rfl) (by kernel_rfl) (by kernel_rfl) (fun _ _ _ h => h) (by rfl) ?_ (fun _ => HS) ?_; rotate_left; (· (intro w; go_simp; (try with_reducible rfl))); try simp only [Act.put, List.setIfInBounds_toArray, List.set_cons_zero, List.set_cons_succ])
          (refine wpAnyS_take0 8 ?_ rfl (by kernel_rfl) (by kernel_rfl) (by kernel_rfl) (by kernel_rfl) (fun _ _ _ h => h) (by rfl) ?_ (fun _ => HS) ?_; rotate_left; (· (intro w; go_simp; (try with_reducible rfl))); try simp only [Act.put, List.setIfInBounds_toArray, List.set_cons_zero, List.set_cons_succ])
          refine wpAnyS_one 9 rfl (by kernel_rfl) (by rfl) ?_
          intro K hK
          go_simp
          have KN := Blk.new wx5 25 (potC0 ⟨#[]⟩ 0 0 0 0)
          have gnr : g1 < wx5.heap.size := HX.out.2.2.2.1.lt
          have HX := Lib.hid (HX.out.next ((Below.refl wx5.heap.size wx5).alloc (Nat.le_refl _) (.cells (potC0 ⟨#[]⟩ 0 0 0 0) 25)))
          obtain ⟨gn, hgn⟩ : ∃ x, x = wx5.heap.size := ⟨_, rfl⟩
          rw [← hgn] at KN gnr ⊢
          have KN := Lib.hid KN
          clear hgn
          generalize wx5.alloc (.cells (potC0 ⟨#[]⟩ 0 0 0 0) 25) = wx7 at KN HX ⊢
          have HS : SL g0 g1 (potC0 s0 a1 a2 a3 a4) (potC0 t0 b1 b2 b3 b4) wx7 := ⟨HX.out.2.2.1.cell, HX.out.2.2.2.1.cell, trivial⟩
          try simp only [Act.put, List.setIfInBounds_toArray, List.set_cons_zero, List.set_cons_succ]
          refine hK _ _ (fun _ => HS) ?_
          clear hK
          refine wpAnyS_one 10 rfl (by kernel_rfl) (by rfl) ?_
          intro K hK
          have hn := KN.out.cell
          have hnf := KN.out.frozen
          go_simp
          have KN := Lib.hid (KN.out.set5 r0 r1 r2 r3 r4)
          have HX := Lib.hid (HX.out.far5 gnr (.string r0) (.int .i64 r1) (.int .i64 r2) (.int .i64 r3) (.int .i64 r4))
          refine hK _ _ (fun h => absurd h (by decide +kernel)) ?_
          clear hK hn hnf HS
          generalize (((((wx7.setCell ⟨gn, 0, none⟩ (.string r0)).setCell ⟨gn, 1, none⟩ (.int .i64 r1)).setCell ⟨gn, 2, none⟩ (.int .i64 r2)).setCell ⟨gn, 3, none⟩ (.int .i64 r3)).setCell ⟨gn, 4, none⟩ (.int .i64 r4)) = wx8 at KN HX ⊢
          refine wpAnyS_one 11 rfl (by kernel_rfl) (by rfl) ?_
          intro K hK
          go_simp
          refine hK _ _ (fun h => absurd h (by decide +kernel)) ?_
          clear hK
          refine wpAnyS_done (by kernel_rfl) ?_
          go_wp2_with fail
          go_meet
          exact ⟨gn, rfl, rfl, KN, HX⟩
        · intro K hK
          go_simp
          have KN := Blk.new wx3 25 (potC0 ⟨#[]⟩ 0 0 0 0)
          have gnr : g1 < wx3.heap.size := HX.out.2.2.2.1.lt
          have HX := Lib.hid (HX.out.next ((Below.refl wx3.heap.size wx3).alloc (Nat.le_refl _) (.cells (potC0 ⟨#[]⟩ 0 0 0 0) 25)))
          obtain ⟨gn, hgn⟩ : ∃ x, x = wx3.heap.size := ⟨_, rfl⟩
          rw [← hgn] at KN gnr ⊢
          have KN := Lib.hid KN
          clear hgn
          generalize wx3.alloc (.cells (potC0 ⟨#[]⟩ 0 0 0 0) 25) = wx6 at KN HX ⊢
          have HS : SL g0 g1 (potC0 s0 a1 a2 a3 a4) (potC0 t0 b1 b2 b3 b4) wx6 := ⟨HX.out.2.2.1.cell, HX.out.2.2.2.1.cell, trivial⟩
          try simp only [Act.put, List.setIfInBounds_toArray, List.set_cons_zero, List.set_cons_succ]
          refine hK _ _ (fun _ => HS) ?_
          clear hK
          refine wpAnyS_one 5 rfl (by kernel_rfl) (by rfl) ?_
          intro K hK
          go_simp
          refine (CS.out _).mono ?_
          rintro r wx9 ⟨rfl, hb⟩
          have HX := Lib.hid (HX.out.next hb)
          have KN := Lib.hid (KN.out.below hb KN.out.lt)
          have HS : SL g0 g1 (potC0 s0 a1 a2 a3 a4) (potC0 t0 b1 b2 b3 b4) wx9 := ⟨HX.out.2.2.1.cell, HX.out.2.2.2.1.cell, trivial⟩
          try simp only [Act.put, List.setIfInBounds_toArray, List.set_cons_zero, List.set_cons_succ]
          refine hK _ _ (fun _ => HS) ?_
          clear hK hb
          (refine wpAnyS_take0 6 ?_ rfl (by kernel_rfl) (by kernel_rfl) (by kernel_rfl) (by kernel_rfl) (fun _ _ _ h => h) (by rfl) ?_ (fun _ => HS) ?_; rotate_left; (· (intro w; go_simp; (try with_reducible rfl))); try simp only [Act.put, List.setIfInBounds_toArray, List.set_cons_zero, List.set_cons_succ])
          (refine wpAnyS_take0 7 ?_ rfl (by kernel_rfl) (by kernel_rfl) (by kernel_rfl) (by kernel_rfl) (fun _ _ _ h => h) (by rfl) ?_ (fun _ => HS) ?_; rotate_left; (· (intro w; go_simp; (try with_reducible rfl))); try simp only [Act.put, List.setIfInBounds_toArray, List.set_cons_zero, List.set_cons_succ])
          (refine wpAnyS_take0 8 ?_ rfl (by kernel_rfl) (by kernel_rfl) (by kernel_rfl) (by kernel_rfl) (fun _ _ _ h => h) (by rfl) ?_ (fun _ => HS) ?_; rotate_left; (· (intro w; go_simp; (try with_reducible rfl))); try simp only [Act.put, List.setIfInBounds_toArray, List.set_cons_zero, List.set_cons_succ])
          refine wpAnyS_one 10 rfl (by kernel_rfl) (by rfl) ?_
          intro K hK
          have hn := KN.out.cell
          have hnf := KN.out.frozen
          go_simp
          have KN := Lib.hid (KN.out.set5 r0 r1 r2 r3 r4)
          have HX := Lib.hid (HX.out.far5 gnr (.string r0) (.int .i64 r1) (.int .i64 r2) (.int .i64 r3) (.int .i64 r4))
          refine hK _ _ (fun h => absurd h (by decide +kernel)) ?_
          clear hK hn hnf HS
          generalize (((((wx9.setCell ⟨gn, 0, none⟩ (.string r0)).setCell ⟨gn, 1, none⟩ (.int .i64 r1)).setCell ⟨gn, 2, none⟩ (.int .i64 r2)).setCell ⟨gn, 3, none⟩ (.int .i64 r3)).setCell ⟨gn, 4, none⟩ (.int .i64 r4)) = wx10 at KN HX ⊢
          refine wpAnyS_one 11 rfl (by kernel_rfl) (by rfl) ?_
          intro K hK
          go_simp
          refine hK _ _ (fun h => absurd h (by decide +kernel)) ?_
          clear hK
          refine wpAnyS_done (by kernel_rfl) ?_
          go_wp2_with fail
          go_meet
          exact ⟨gn, rfl, rfl, KN, HX⟩
      · intro K hK
        go_simp
        have KN := Blk.new wx1 25 (potC0 ⟨#[]⟩ 0 0 0 0)
        have gnr : g1 < wx1.heap.size := HX.out.2.2.2.1.lt
        have HX := Lib.hid (HX.out.next ((Below.refl wx1.heap.size wx1).alloc (Nat.le_refl _) (.cells (potC0 ⟨#[]⟩ 0 0 0 0) 25)))
        obtain ⟨gn, hgn⟩ : ∃ x, x = wx1.heap.size := ⟨_, rfl⟩
        rw [← hgn] at KN gnr ⊢
        have KN := Lib.hid KN
        clear hgn
        generalize wx1.alloc (.cells (potC0 ⟨#[]⟩ 0 0 0 0) 25) = wx4 at KN HX ⊢
        have HS : SL g0 g1 (potC0 s0 a1 a2 a3 a4) (potC0 t0 b1 b2 b3 b4) wx4 := ⟨HX.out.2.2.1.cell, HX.out.2.2.2.1.cell, trivial⟩
        try simp only [Act.put, List.setIfInBounds_toArray, List.set_cons_zero, List.set_cons_succ]
        refine hK _ _ (fun _ => HS) ?_
        clear hK
        refine wpAnyS_one 3 rfl (by kernel_rfl) (by rfl) ?_
        intro K hK
        go_simp
        refine (toPot_any _ _ _ _ _ _).mono ?_
        rintro r wx11 ⟨rfl, hb⟩
        have HX := Lib.hid (HX.out.next hb)
        have KN := Lib.hid (KN.out.below hb KN.out.lt)
        have HS : SL g0 g1 (potC0 s0 a1 a2 a3 a4) (potC0 t0 b1 b2 b3 b4) wx11 := ⟨HX.out.2.2.1.cell, HX.out.2.2.2.1.cell, trivial⟩
        try simp only [Act.put, List.setIfInBounds_toArray, List.set_cons_zero, List.set_cons_succ]
        refine hK _ _ (fun _ => HS) ?_
        clear hK hb
        refine wpAnyS_one 5 rfl (by kernel_rfl) (by rfl) ?_
        intro K hK
        go_simp
        refine (CS.out _).mono ?_
        rintro r wx12 ⟨rfl, hb⟩
        have HX := Lib.hid (HX.out.next hb)
        have KN := Lib.hid (KN.out.below hb KN.out.lt)
        have HS : SL g0 g1 (potC0 s0 a1 a2 a3 a4) (potC0 t0 b1 b2 b3 b4) wx12 := ⟨HX.out.2.2.1.cell, HX.out.2.2.2.1.cell, trivial⟩
        try simp only [Act.put, List.setIfInBounds_toArray, List.set_cons_zero, List.set_cons_succ]
        refine hK _ _ (fun _ => HS) ?_
        clear hK hb
        (refine wpAnyS_take0 6 ?_ rfl (by kernel_rfl) (by kernel_rfl) (by kernel_rfl) (by kernel_rfl) (fun _ _ _ h => h) (by rfl) ?_ (fun _ => HS) ?_; rotate_left; (· (intro w; go_simp; (try with_reducible rfl))); try simp only [Act.put, List.setIfInBounds_toArray, List.set_cons_zero, List.set_cons_succ])
        (refine wpAnyS_take0 7 ?_ rfl (by kernel_rfl) (by kernel_rfl) (by kernel_rfl) (by kernel_rfl) (fun _ _ _ h => h) (by rfl) ?_ (fun _ => HS) ?_; rotate_left; (· (intro w; go_simp; (try with_reducible rfl))); try simp only [Act.put, List.setIfInBounds_toArray, List.set_cons_zero, List.set_cons_succ])
        (refine wpAnyS_take0 8 ?_ rfl (by kernel_rfl) (by kernel_rfl) (by kernel_rfl) (by kernel_rfl) (fun _ _ _ h => h) (by rfl) ?_ (fun _ => HS) ?_; rotate_left; (· (intro w; go_simp; (try with_reducible rfl))); try simp only [Act.put, List.setIfInBounds_toArray, List.set_cons_zero, List.set_cons_succ])
        refine wpAnyS_one 10 rfl (by kernel_rfl) (by rfl) ?_
        intro K hK
        have hn := KN.out.cell
        have hnf := KN.out.frozen
        go_simp
        have KN := Lib.hid (KN.out.set5 r0 r1 r2 r3 r4)
        have HX := Lib.hid (HX.out.far5 gnr (.string r0) (.int .i64 r1) (.int .i64 r2) (.int .i64 r3) (.int .i64 r4))
        refine hK _ _ (fun h => absurd h (by decide +kernel)) ?_
        clear hK hn hnf HS
        generalize (((((wx12.setCell ⟨gn, 0, none⟩ (.string r0)).setCell ⟨gn, 1, none⟩ (.int .i64 r1)).setCell ⟨gn, 2, none⟩ (.int .i64 r2)).setCell ⟨gn, 3, none⟩ (.int .i64 r3)).setCell ⟨gn, 4, none⟩ (.int .i64 r4)) = wx13 at KN HX ⊢
        refine wpAnyS_one 11 rfl (by kernel_rfl) (by rfl) ?_
        intro K hK
        go_simp
        refine hK _ _ (fun h => absurd h (by decide +kernel)) ?_
        clear hK
        refine wpAnyS_done (by kernel_rfl) ?_
        go_wp2_with fail
        go_meet
        exact ⟨gn, rfl, rfl, KN, HX⟩
    · intro K hK
      go_simp
      have KN := Blk.new wd 25 (potC0 ⟨#[]⟩ 0 0 0 0)
      have gnr : g1 < wd.heap.size := HX.out.2.2.2.1.lt
      have HX := Lib.hid (HX.out.next ((Below.refl wd.heap.size wd).alloc (Nat.le_refl _) (.cells (potC0 ⟨#[]⟩ 0 0 0 0) 25)))
      obtain ⟨gn, hgn⟩ : ∃ x, x = wd.heap.size := ⟨_, rfl⟩
      rw [← hgn] at KN gnr ⊢
      have KN := Lib.hid KN
      clear hgn
      generalize wd.alloc (.cells (potC0 ⟨#[]⟩ 0 0 0 0) 25) = wx2 at KN HX ⊢
      have HS : SL g0 g1 (potC0 s0 a1 a2 a3 a4) (potC0 t0 b1 b2 b3 b4) wx2 := ⟨HX.out.2.2.1.cell, HX.out.2.2.2.1.cell, trivial⟩
      try simp only [Act.put, List.setIfInBounds_toArray, List.set_cons_zero, List.set_cons_succ]
      refine hK _ _ (fun _ => HS) ?_
      clear hK
      refine wpAnyS_one 1 rfl (by kernel_rfl) (by rfl) ?_
      intro K hK
      go_simp
      refine (toPot_any _ _ _ _ _ _).mono ?_
      rintro r wx14 ⟨rfl, hb⟩
      have HX := Lib.hid (HX.out.next hb)
      have KN := Lib.hid (KN.out.below hb KN.out.lt)
      have HS : SL g0 g1 (potC0 s0 a1 a2 a3 a4) (potC0 t0 b1 b2 b3 b4) wx14 := ⟨HX.out.2.2.1.cell, HX.out.2.2.2.1.cell, trivial⟩
      try simp only [Act.put, List.setIfInBounds_toArray, List.set_cons_zero, List.set_cons_succ]
      refine hK _ _ (fun _ => HS) ?_
      clear hK hb
      refine wpAnyS_one 3 rfl (by kernel_rfl) (by rfl) ?_
      intro K hK
      go_simp
      refine (toPot_any _ _ _ _ _ _).mono ?_
      rintro r wx15 ⟨rfl, hb⟩
      have HX := Lib.hid (HX.out.next hb)
      have KN := Lib.hid (KN.out.below hb KN.out.lt)
      have HS : SL g0 g1 (potC0 s0 a1 a2 a3 a4) (potC0 t0 b1 b2 b3 b4) wx15 := ⟨HX.out.2.2.1.cell, HX.out.2.2.2.1.cell, trivial⟩
      try simp only [Act.put, List.setIfInBounds_toArray, List.set_cons_zero, List.set_cons_succ]
      refine hK _ _ (fun _ => HS) ?_
      clear hK hb
      refine wpAnyS_one 5 rfl (by kernel_rfl) (by rfl) ?_
      intro K hK
      go_simp
      refine (CS.out _).mono ?_
      rintro r wx16 ⟨rfl, hb⟩
      have HX := Lib.hid (HX.out.next hb)
      have KN := Lib.hid (KN.out.below hb KN.out.lt)
      have HS : SL g0 g1 (potC0 s0 a1 a2 a3 a4) (potC0 t0 b1 b2 b3 b4) wx16 := ⟨HX.out.2.2.1.cell, HX.out.2.2.2.1.cell, trivial⟩
      try simp only [Act.put, List.setIfInBounds_toArray, List.set_cons_zero, List.set_cons_succ]
      refine hK _ _ (fun _ => HS) ?_
      clear hK hb
      (refine wpAnyS_take0 6 ?_ rfl (by kernel_rfl) (by kernel_rfl) (by kernel_rfl) (by kernel_rfl) (fun _ _ _ h => h) (by rfl) ?_ (fun _ => HS) ?_; rotate_left; (· (intro w; go_simp; (try with_reducible rfl))); try simp only [Act.put, List.setIfInBounds_toArray, List.set_cons_zero, List.set_cons_succ])
      (refine wpAnyS_take0 7 ?_ rfl (by kernel_rfl) (by kernel_rfl) (by kernel_rfl) (by kernel_rfl) (fun _ _ _ h => h) (by rfl) ?_ (fun _ => HS) ?_; rotate_left; (· (intro w; go_simp; (try with_reducible rfl))); try simp only [Act.put, List.setIfInBounds_toArray, List.set_cons_zero, List.set_cons_succ])
      (refine wpAnyS_take0 8 ?_ rfl (by kernel_rfl) (by kernel_rfl) (by kernel_rfl) (by kernel_rfl) (fun _ _ _ h => h) (by rfl) ?_ (fun _ => HS) ?_; rotate_left; (· (intro w; go_simp; (try with_reducible rfl))); try simp only [Act.put, List.setIfInBounds_toArray, List.set_cons_zero, List.set_cons_succ])
      refine wpAnyS_one 10 rfl (by kernel_rfl) (by rfl) ?_
      intro K hK
      have hn := KN.out.cell
      have hnf := KN.out.frozen
      go_simp
      have KN := Lib.hid (KN.out.set5 r0 r1 r2 r3 r4)
      have HX := Lib.hid (HX.out.far5 gnr (.string r0) (.int .i64 r1) (.int .i64 r2) (.int .i64 r3) (.int .i64 r4))
      refine hK _ _ (fun h => absurd h (by decide +kernel)) ?_
      clear hK hn hnf HS
      generalize (((((wx16.setCell ⟨gn, 0, none⟩ (.string r0)).setCell ⟨gn, 1, none⟩ (.int .i64 r1)).setCell ⟨gn, 2, none⟩ (.int .i64 r2)).setCell ⟨gn, 3, none⟩ (.int .i64 r3)).setCell ⟨gn, 4, none⟩ (.int .i64 r4)) = wx17 at KN HX ⊢
      refine wpAnyS_one 11 rfl (by kernel_rfl) (by rfl) ?_
      intro K hK
      go_simp
      refine hK _ _ (fun h => absurd h (by decide +kernel)) ?_
      clear hK
      refine wpAnyS_done (by kernel_rfl) ?_
      go_wp2_with fail
      go_meet
      exact ⟨gn, rfl, rfl, KN, HX⟩
  case rest =>
    obtain ⟨n1, rfl, rfl, K1, HX⟩ := hcut
    go_upto_region 11 with fail
    go_cut [10, 11] from 34 to 42 (fun p c wz => ∃ gn : Nat, p = .pointer (some ⟨gn, 0, none⟩) ∧ c = .int .i64 rc ∧ Hid (Blk wz gn 25 (potC0 r0 r1 r2 r3 r4)) ∧ Hid (Blk wz n1 25 (potC0 r0 r1 r2 r3 r4)) ∧ Hid (Box2 w wz g0 g1 (potC0 s0 a1 a2 a3 a4) (potC0 t0 b1 b2 b3 b4)))
    case first =>
      refine wp_region_S (SL g0 g1 (potC0 s0 a1 a2 a3 a4) (potC0 t0 b1 b2 b3 b4)) 10 (by kernel_rfl) ?_
      have HX := Lib.hid HX.out.drew
      have K1 := Lib.hid K1.out.drew
      generalize wc.drew = wd at HX K1 ⊢
      have HS : SL g0 g1 (potC0 s0 a1 a2 a3 a4) (potC0 t0 b1 b2 b3 b4) wd := ⟨HX.out.2.2.1.cell, HX.out.2.2.2.1.cell, trivial⟩
      (refine wpAnyS_take 0 ?_ rfl (by kernel_rfl) (by kernel_rfl) (by kernel_rfl) (by kernel_rfl) (by kernel_rfl) (by kernel_rfl) (fun _ _ _ h => h) (by rfl) ?_ HS ?_; rotate_left; (· (intro w hSw; obtain ⟨s1, s2, s3⟩ := hSw; go_simp; (try with_reducible rfl))); try simp only [Act.put, List.setIfInBounds_toArray, List.set_cons_zero, List.set_cons_succ])
      (refine wpAnyS_take 2 ?_ rfl (by kernel_rfl) (by kernel_rfl) (by kernel_rfl) (by kernel_rfl) (by kernel_rfl) (by kernel_rfl) (fun _ _ _ h => h) (by rfl) ?_ HS ?_; rotate_left; (· (intro w hSw; obtain ⟨s1, s2, s3⟩ := hSw; go_simp; (try with_reducible rfl))); try simp only [Act.put, List.setIfInBounds_toArray, List.set_cons_zero, List.set_cons_succ])
      (refine wpAnyS_take0 4 ?_ rfl (by kernel_rfl) (by kernel_rfl) (by kernel_rfl) (by kernel_rfl) (fun _ _ _ h => h) (by rfl) ?_ (fun _ => HS) ?_; rotate_left; (· (intro w; go_simp; (try with_reducible rfl))); try simp only [Act.put, List.setIfInBounds_toArray, List.set_cons_zero, List.set_cons_succ])
      refine wpAnyS_two 1 9 rfl rfl (by kernel_rfl) (by rfl) (by rfl) ?_ ?_
      · intro K hK
        go_simp
        refine (toPot_any _ _ _ _ _ _).mono ?_
        rintro r wx1 ⟨rfl, hb⟩
        have HX := Lib.hid (HX.out.next hb)
        have K1 := Lib.hid (K1.out.below hb K1.out.lt)
        have HS : SL g0 g1 (potC0 s0 a1 a2 a3 a4) (potC0 t0 b1 b2 b3 b4) wx1 := ⟨HX.out.2.2.1.cell, HX.out.2.2.2.1.cell, trivial⟩
        try simp only [Act.put, List.setIfInBounds_toArray, List.set_cons_zero, List.set_cons_succ]
        refine hK _ _ (fun _ => HS) ?_
        clear hK hb
        refine wpAnyS_two 3 9 rfl rfl (by kernel_rfl) (by rfl) (by rfl) ?_ ?_
        · intro K hK
          go_simp
          refine (toPot_any _ _ _ _ _ _).mono ?_
          rintro r wx3 ⟨rfl, hb⟩
          have HX := Lib.hid (HX.out.next hb)
          have K1 := Lib.hid (K1.out.below hb K1.out.lt)
          have HS : SL g0 g1 (potC0 s0 a1 a2 a3 a4) (potC0 t0 b1 b2 b3 b4) wx3 := ⟨HX.out.2.2.1.cell, HX.out.2.2.2.1.cell, trivial⟩
          try simp only [Act.put, List.setIfInBounds_toArray, List.set_cons_zero, List.set_cons_succ]
          refine hK _ _ (fun _ => HS) ?_
          clear hK hb
          refine wpAnyS_two 5 9 rfl rfl (by kernel_rfl) (by rfl) (by rfl) ?_ ?_
          · intro K hK
            go_simp
            refine (CI.out _).mono ?_
            rintro r wx5 ⟨rfl, hb⟩
            have HX := Lib.hid (HX.out.next hb)
            have K1 := Lib.hid (K1.out.below hb K1.out.lt)
            have HS : SL g0 g1 (potC0 s0 a1 a2 a3 a4) (potC0 t0 b1 b2 b3 b4) wx5 := ⟨HX.out.2.2.1.cell, HX.out.2.2.2.1.cell, trivial⟩
            try simp only [Act.put, List.setIfInBounds_toArray, List.set_cons_zero, List.set_cons_succ]
            refine hK _ _ (fun _ => HS) ?_
            clear hK hb
            (refine wpAnyS_take0 6 ?_ rfl (by kernel_rfl) (by kernel_rfl) (by kernel_rfl) (by kernel_rfl) (fun _ _ _ h => h) (by rfl) ?_ (fun _ => HS) ?_; rotate_left; (· (intro w; go_simp; (try with_reducible rfl))); try simp only [Act.put, List.setIfInBounds_toArray, List.set_cons_zero, List.set_cons_succ])
            (refine wpAnyS_take0 7 ?_ rfl (by kernel_rfl) (by kernel_rfl) (by kernel_rfl) (by kernel_rfl) (fun _ _ _ h => h) (by rfl) ?_ (fun _ => HS) ?_; rotate_left; (· (intro w; go_simp; (try with_reducible rfl))); try simp only [Act.put, List.setIfInBounds_toArray, List.set_cons_zero, List.set_cons_succ])
            (refine wpAnyS_take0 8 ?_ rfl (by kernel_rfl) (by kernel_rfl) (by kernel_rfl) (by kernel_rfl) (fun _ _ _ h => h) (by rfl) ?_ (fun _ => HS) ?_; rotate_left; (· (intro w; go_simp; (try with_reducible rfl))); try simp only [Act.put, List.setIfInBounds_toArray, List.set_cons_zero, List.set_cons_succ])
            refine wpAnyS_one 9 rfl (by kernel_rfl) (by rfl) ?_
            intro K hK
            go_simp
            have KN := Blk.new wx5 25 (potC0 ⟨#[]⟩ 0 0 0 0)
            have gnr : g1 < wx5.heap.size := HX.out.2.2.2.1.lt
            have HX := Lib.hid (HX.out.next ((Below.refl wx5.heap.size wx5).alloc (Nat.le_refl _) (.cells (potC0 ⟨#[]⟩ 0 0 0 0) 25)))
            have n1g : n1 < wx5.heap.size := K1.out.lt
            have K1 := Lib.hid (K1.out.alloc (.cells (potC0 ⟨#[]⟩ 0 0 0 0) 25))
            obtain ⟨gn, hgn⟩ : ∃ x, x = wx5.heap.size := ⟨_, rfl⟩
            rw [← hgn] at KN gnr n1g ⊢
            have KN := Lib.hid KN
            clear hgn
            generalize wx5.alloc (.cells (potC0 ⟨#[]⟩ 0 0 0 0) 25) = wx7 at KN HX K1 ⊢
            have HS : SL g0 g1 (potC0 s0 a1 a2 a3 a4) (potC0 t0 b1 b2 b3 b4) wx7 := ⟨HX.out.2.2.1.cell, HX.out.2.2.2.1.cell, trivial⟩
            try simp only [Act.put, List.setIfInBounds_toArray, List.set_cons_zero, List.set_cons_succ]
            refine hK _ _ (fun _ => HS) ?_
            clear hK
            refine wpAnyS_one 10 rfl (by kernel_rfl) (by rfl) ?_
            intro K hK
            have hn := KN.out.cell
            have hnf := KN.out.frozen
            go_simp
            have KN := Lib.hid (KN.out.set5 r0 r1 r2 r3 r4)
            have HX := Lib.hid (HX.out.far5 gnr (.string r0) (.int .i64 r1) (.int .i64 r2) (.int .i64 r3) (.int .i64 r4))
            have K1 := Lib.hid (K1.out.far5 n1g (.string r0) (.int .i64 r1) (.int .i64 r2) (.int .i64 r3) (.int .i64 r4))
            refine hK _ _ (fun h => absurd h (by decide +kernel)) ?_
            clear hK hn hnf HS
            generalize (((((wx7.setCell ⟨gn, 0, none⟩ (.string r0)).setCell ⟨gn, 1, none⟩ (.int .i64 r1)).setCell ⟨gn, 2, none⟩ (.int .i64 r2)).setCell ⟨gn, 3, none⟩ (.int .i64 r3)).setCell ⟨gn, 4, none⟩ (.int .i64 r4)) = wx8 at KN HX K1 ⊢
            refine wpAnyS_one 11 rfl (by kernel_rfl) (by rfl) ?_
            intro K hK
            go_simp
            refine hK _ _ (fun h => absurd h (by decide +kernel)) ?_
            clear hK
            refine wpAnyS_done (by kernel_rfl) ?_
            go_wp2_with fail
            go_meet
            exact ⟨gn, rfl, rfl, KN, K1, HX⟩
          · intro K hK
            go_simp
            have KN := Blk.new wx3 25 (potC0 ⟨#[]⟩ 0 0 0 0)
            have gnr : g1 < wx3.heap.size := HX.out.2.2.2.1.lt
            have HX := Lib.hid (HX.out.next ((Below.refl wx3.heap.size wx3).alloc (Nat.le_refl _) (.cells (potC0 ⟨#[]⟩ 0 0 0 0) 25)))
            have n1g : n1 < wx3.heap.size := K1.out.lt
            have K1 := Lib.hid (K1.out.alloc (.cells (potC0 ⟨#[]⟩ 0 0 0 0) 25))
            obtain ⟨gn, hgn⟩ : ∃ x, x = wx3.heap.size := ⟨_, rfl⟩
            rw [← hgn] at KN gnr n1g ⊢
            have KN := Lib.hid KN
            clear hgn
            generalize wx3.alloc (.cells (potC0 ⟨#[]⟩ 0 0 0 0) 25) = wx6 at KN HX K1 ⊢
            have HS : SL g0 g1 (potC0 s0 a1 a2 a3 a4) (potC0 t0 b1 b2 b3 b4) wx6 := ⟨HX.out.2.2.1.cell, HX.out.2.2.2.1.cell, trivial⟩
            try simp only [Act.put, List.setIfInBounds_toArray, List.set_cons_zero, List.set_cons_succ]
            refine hK _ _ (fun _ => HS) ?_
            clear hK
            refine wpAnyS_one 5 rfl (by kernel_rfl) (by rfl) ?_
            intro K hK
            go_simp
            refine (CI.out _).mono ?_
            rintro r wx9 ⟨rfl, hb⟩
            have HX := Lib.hid (HX.out.next hb)
            have K1 := Lib.hid (K1.out.below hb K1.out.lt)
            have KN := Lib.hid (KN.out.below hb KN.out.lt)
            have HS : SL g0 g1 (potC0 s0 a1 a2 a3 a4) (potC0 t0 b1 b2 b3 b4) wx9 := ⟨HX.out.2.2.1.cell, HX.out.2.2.2.1.cell, trivial⟩
            try simp only [Act.put, List.setIfInBounds_toArray, List.set_cons_zero, List.set_cons_succ]
            refine hK _ _ (fun _ => HS) ?_
            clear hK hb
            (refine wpAnyS_take0 6 ?_ rfl (by kernel_rfl) (by kernel_rfl) (by kernel_rfl) (by kernel_rfl) (fun _ _ _ h => h) (by rfl) ?_ (fun _ => HS) ?_; rotate_left; (· (intro w; go_simp; (try with_reducible rfl))); try simp only [Act.put, List.setIfInBounds_toArray, List.set_cons_zero, List.set_cons_succ])
            (refine wpAnyS_take0 7 ?_ rfl (by kernel_rfl) (by kernel_rfl) (by kernel_rfl) (by kernel_rfl) (fun _ _ _ h => h) (by rfl) ?_ (fun _ => HS) ?_; rotate_left; (· (intro w; go_simp; (try with_reducible rfl))); try simp only [Act.put, List.setIfInBounds_toArray, List.set_cons_zero, List.set_cons_succ])
            (refine wpAnyS_take0 8 ?_ rfl (by kernel_rfl) (by kernel_rfl) (by kernel_rfl) (by kernel_rfl) (fun _ _ _ h => h) (by rfl) ?_ (fun _ => HS) ?_; rotate_left; (· (intro w; go_simp; (try with_reducible rfl))); try simp only [Act.put, List.setIfInBounds_toArray, List.set_cons_zero, List.set_cons_succ])
            refine wpAnyS_one 10 rfl (by kernel_rfl) (by rfl) ?_
            intro K hK
            have hn := KN.out.cell
            have hnf := KN.out.frozen
            go_simp
            have KN := Lib.hid (KN.out.set5 r0 r1 r2 r3 r4)
            have HX := Lib.hid (HX.out.far5 gnr (.string r0) (.int .i64 r1) (.int .i64 r2) (.int .i64 r3) (.int .i64 r4))
            have K1 := Lib.hid (K1.out.far5 n1g (.string r0) (.int .i64 r1) (.int .i64 r2) (.int .i64 r3) (.int .i64 r4))
            refine hK _ _ (fun h => absurd h (by decide +kernel)) ?_
            clear hK hn hnf HS
            generalize (((((wx9.setCell ⟨gn, 0, none⟩ (.string r0)).setCell ⟨gn, 1, none⟩ (.int .i64 r1)).setCell ⟨gn, 2, none⟩ (.int .i64 r2)).setCell ⟨gn, 3, none⟩ (.int .i64 r3)).setCell ⟨gn, 4, none⟩ (.int .i64 r4)) = wx10 at KN HX K1 ⊢
            refine wpAnyS_one 11 rfl (by kernel_rfl) (by rfl) ?_
            intro K hK
            go_simp
            refine hK _ _ (fun h => absurd h (by decide +kernel)) ?_
            clear hK
            refine wpAnyS_done (by kernel_rfl) ?_
            go_wp2_with fail
            go_meet
            exact ⟨gn, rfl, rfl, KN, K1, HX⟩
        · intro K hK
          go_simp
          have KN := Blk.new wx1 25 (potC0 ⟨#[]⟩ 0 0 0 0)
          have gnr : g1 < wx1.heap.size := HX.out.2.2.2.1.lt
          have HX := Lib.hid (HX.out.next ((Below.refl wx1.heap.size wx1).alloc (Nat.le_refl _) (.cells (potC0 ⟨#[]⟩ 0 0 0 0) 25)))
          have n1g : n1 < wx1.heap.size := K1.out.lt
          have K1 := Lib.hid (K1.out.alloc (.cells (potC0 ⟨#[]⟩ 0 0 0 0) 25))
          obtain ⟨gn, hgn⟩ : ∃ x, x = wx1.heap.size := ⟨_, rfl⟩
          rw [← hgn] at KN gnr n1g ⊢
          have KN := Lib.hid KN
          clear hgn
          generalize wx1.alloc (.cells (potC0 ⟨#[]⟩ 0 0 0 0) 25) = wx4 at KN HX K1 ⊢
          have HS : SL g0 g1 (potC0 s0 a1 a2 a3 a4) (potC0 t0 b1 b2 b3 b4) wx4 := ⟨HX.out.2.2.1.cell, HX.out.2.2.2.1.cell, trivial⟩
          try simp only [Act.put, List.setIfInBounds_toArray, List.set_cons_zero, List.set_cons_succ]
          refine hK _ _ (fun _ => HS) ?_
          clear hK
          refine wpAnyS_one 3 rfl (by kernel_rfl) (by rfl) ?_
          intro K hK
          go_simp
          refine (toPot_any _ _ _ _ _ _).mono ?_
          rintro r wx11 ⟨rfl, hb⟩
          have HX := Lib.hid (HX.out.next hb)
          have K1 := Lib.hid (K1.out.below hb K1.out.lt)
          have KN := Lib.hid (KN.out.below hb KN.out.lt)
          have HS : SL g0 g1 (potC0 s0 a1 a2 a3 a4) (potC0 t0 b1 b2 b3 b4) wx11 := ⟨HX.out.2.2.1.cell, HX.out.2.2.2.1.cell, trivial⟩
          try simp only [Act.put, List.setIfInBounds_toArray, List.set_cons_zero, List.set_cons_succ]
          refine hK _ _ (fun _ => HS) ?_
          clear hK hb
          refine wpAnyS_one 5 rfl (by kernel_rfl) (by rfl) ?_
          intro K hK
          go_simp
          refine (CI.out _).mono ?_
          rintro r wx12 ⟨rfl, hb⟩
          have HX := Lib.hid (HX.out.next hb)
          have K1 := Lib.hid (K1.out.below hb K1.out.lt)
          have KN := Lib.hid (KN.out.below hb KN.out.lt)
          have HS : SL g0 g1 (potC0 s0 a1 a2 a3 a4) (potC0 t0 b1 b2 b3 b4) wx12 := ⟨HX.out.2.2.1.cell, HX.out.2.2.2.1.cell, trivial⟩
          try simp only [Act.put, List.setIfInBounds_toArray, List.set_cons_zero, List.set_cons_succ]
          refine hK _ _ (fun _ => HS) ?_
          clear hK hb
          (refine wpAnyS_take0 6 ?_ rfl (by kernel_rfl) (by kernel_rfl) (by kernel_rfl) (by kernel_rfl) (fun _ _ _ h => h) (by rfl) ?_ (fun _ => HS) ?_; rotate_left; (· (intro w; go_simp; (try with_reducible rfl))); try simp only [Act.put, List.setIfInBounds_toArray, List.set_cons_zero, List.set_cons_succ])
          (refine wpAnyS_take0 7 ?_ rfl (by kernel_rfl) (by kernel_rfl) (by kernel_rfl) (by kernel_rfl) (fun _ _ _ h => h) (by rfl) ?_ (fun _ => HS) ?_; rotate_left; (· (intro w; go_simp; (try with_reducible rfl))); try simp only [Act.put, List.setIfInBounds_toArray, List.set_cons_zero, List.set_cons_succ])
          (refine wpAnyS_take0 8 ?_ rfl (by kernel_rfl) (by kernel_rfl) (by kernel_rfl) (by kernel_rfl) (fun _ _ _ h => h) (by rfl) ?_ (fun _ => HS) ?_; rotate_left; (· (intro w; go_simp; (try with_reducible rfl))); try simp only [Act.put, List.setIfInBounds_toArray, List.set_cons_zero, List.set_cons_succ])
          refine wpAnyS_one 10 rfl (by kernel_rfl) (by rfl) ?_
          intro K hK
          have hn := KN.out.cell
          have hnf := KN.out.frozen
          go_simp
          have KN := Lib.hid (KN.out.set5 r0 r1 r2 r3 r4)
          have HX := Lib.hid (HX.out.far5 gnr (.string r0) (.int .i64 r1) (.int .i64 r2) (.int .i64 r3) (.int .i64 r4))
          have K1 := Lib.hid (K1.out.far5 n1g (.string r0) (.int .i64 r1) (.int .i64 r2) (.int .i64 r3) (.int .i64 r4))
          refine hK _ _ (fun h => absurd h (by decide +kernel)) ?_
          clear hK hn hnf HS
          generalize (((((wx12.setCell ⟨gn, 0, none⟩ (.string r0)).setCell ⟨gn, 1, none⟩ (.int .i64 r1)).setCell ⟨gn, 2, none⟩ (.int .i64 r2)).setCell ⟨gn, 3, none⟩ (.int .i64 r3)).setCell ⟨gn, 4, none⟩ (.int .i64 r4)) = wx13 at KN HX K1 ⊢
          refine wpAnyS_one 11 rfl (by kernel_rfl) (by rfl) ?_
          intro K hK
          go_simp
          refine hK _ _ (fun h => absurd h (by decide +kernel)) ?_
          clear hK
          refine wpAnyS_done (by kernel_rfl) ?_
          go_wp2_with fail
          go_meet
          exact ⟨gn, rfl, rfl, KN, K1, HX⟩
      · intro K hK
        go_simp
        have KN := Blk.new wd 25 (potC0 ⟨#[]⟩ 0 0 0 0)
        have gnr : g1 < wd.heap.size := HX.out.2.2.2.1.lt
        have HX := Lib.hid (HX.out.next ((Below.refl wd.heap.size wd).alloc (Nat.le_refl _) (.cells (potC0 ⟨#[]⟩ 0 0 0 0) 25)))
        have n1g : n1 < wd.heap.size := K1.out.lt
        have K1 := Lib.hid (K1.out.alloc (.cells (potC0 ⟨#[]⟩ 0 0 0 0) 25))
        obtain ⟨gn, hgn⟩ : ∃ x, x = wd.heap.size := ⟨_, rfl⟩
        rw [← hgn] at KN gnr n1g ⊢
        have KN := Lib.hid KN
        clear hgn
        generalize wd.alloc (.cells (potC0 ⟨#[]⟩ 0 0 0 0) 25) = wx2 at KN HX K1 ⊢
        have HS : SL g0 g1 (potC0 s0 a1 a2 a3 a4) (potC0 t0 b1 b2 b3 b4) wx2 := ⟨HX.out.2.2.1.cell, HX.out.2.2.2.1.cell, trivial⟩
        try simp only [Act.put, List.setIfInBounds_toArray, List.set_cons_zero, List.set_cons_succ]
        refine hK _ _ (fun _ => HS) ?_
        clear hK
        refine wpAnyS_one 1 rfl (by kernel_rfl) (by rfl) ?_
        intro K hK
        go_simp
        refine (toPot_any _ _ _ _ _ _).mono ?_
        rintro r wx14 ⟨rfl, hb⟩
        have HX := Lib.hid (HX.out.next hb)
        have K1 := Lib.hid (K1.out.below hb K1.out.lt)
        have KN := Lib.hid (KN.out.below hb KN.out.lt)
        have HS : SL g0 g1 (potC0 s0 a1 a2 a3 a4) (potC0 t0 b1 b2 b3 b4) wx14 := ⟨HX.out.2.2.1.cell, HX.out.2.2.2.1.cell, trivial⟩
        try simp only [Act.put, List.setIfInBounds_toArray, List.set_cons_zero, List.set_cons_succ]
        refine hK _ _ (fun _ => HS) ?_
        clear hK hb
        refine wpAnyS_one 3 rfl (by kernel_rfl) (by rfl) ?_
        intro K hK
        go_simp
        refine (toPot_any _ _ _ _ _ _).mono ?_
        rintro r wx15 ⟨rfl, hb⟩
        have HX := Lib.hid (HX.out.next hb)
        have K1 := Lib.hid (K1.out.below hb K1.out.lt)
        have KN := Lib.hid (KN.out.below hb KN.out.lt)
        have HS : SL g0 g1 (potC0 s0 a1 a2 a3 a4) (potC0 t0 b1 b2 b3 b4) wx15 := ⟨HX.out.2.2.1.cell, HX.out.2.2.2.1.cell, trivial⟩
        try simp only [Act.put, List.setIfInBounds_toArray, List.set_cons_zero, List.set_cons_succ]
        refine hK _ _ (fun _ => HS) ?_
        clear hK hb
        refine wpAnyS_one 5 rfl (by kernel_rfl) (by rfl) ?_
        intro K hK
        go_simp
        refine (CI.out _).mono ?_
        rintro r wx16 ⟨rfl, hb⟩
        have HX := Lib.hid (HX.out.next hb)
        have K1 := Lib.hid (K1.out.below hb K1.out.lt)
        have KN := Lib.hid (KN.out.below hb KN.out.lt)
        have HS : SL g0 g1 (potC0 s0 a1 a2 a3 a4) (potC0 t0 b1 b2 b3 b4) wx16 := ⟨HX.out.2.2.1.cell, HX.out.2.2.2.1.cell, trivial⟩
        try simp only [Act.put, List.setIfInBounds_toArray, List.set_cons_zero, List.set_cons_succ]
        refine hK _ _ (fun _ => HS) ?_
        clear hK hb
        (refine wpAnyS_take0 6 ?_ rfl (by kernel_rfl) (by kernel_rfl) (by kernel_rfl) (by kernel_rfl) (fun _ _ _ h => h) (by rfl) ?_ (fun _ => HS) ?_; rotate_left; (· (intro w; go_simp; (try with_reducible rfl))); try simp only [Act.put, List.setIfInBounds_toArray, List.set_cons_zero, List.set_cons_succ])
        (refine wpAnyS_take0 7 ?_ rfl (by kernel_rfl) (by kernel_rfl) (by kernel_rfl) (by kernel_rfl) (fun _ _ _ h => h) (by rfl) ?_ (fun _ => HS) ?_; rotate_left; (· (intro w; go_simp; (try with_reducible rfl))); try simp only [Act.put, List.setIfInBounds_toArray, List.set_cons_zero, List.set_cons_succ])
        (refine wpAnyS_take0 8 ?_ rfl (by kernel_rfl) (by kernel_rfl) (by kernel_rfl) (by kernel_rfl) (fun _ _ _ h => h) (by rfl) ?_ (fun _ => HS) ?_; rotate_left; (· (intro w; go_simp; (try with_reducible rfl))); try simp only [Act.put, List.setIfInBounds_toArray, List.set_cons_zero, List.set_cons_succ])
        refine wpAnyS_one 10 rfl (by kernel_rfl) (by rfl) ?_
        intro K hK
        have hn := KN.out.cell
        have hnf := KN.out.frozen
        go_simp
        have KN := Lib.hid (KN.out.set5 r0 r1 r2 r3 r4)
        have HX := Lib.hid (HX.out.far5 gnr (.string r0) (.int .i64 r1) (.int .i64 r2) (.int .i64 r3) (.int .i64 r4))
        have K1 := Lib.hid (K1.out.far5 n1g (.string r0) (.int .i64 r1) (.int .i64 r2) (.int .i64 r3) (.int .i64 r4))
        refine hK _ _ (fun h => absurd h (by decide +kernel)) ?_
        clear hK hn hnf HS
        generalize (((((wx16.setCell ⟨gn, 0, none⟩ (.string r0)).setCell ⟨gn, 1, none⟩ (.int .i64 r1)).setCell ⟨gn, 2, none⟩ (.int .i64 r2)).setCell ⟨gn, 3, none⟩ (.int .i64 r3)).setCell ⟨gn, 4, none⟩ (.int .i64 r4)) = wx17 at KN HX K1 ⊢
        refine wpAnyS_one 11 rfl (by kernel_rfl) (by rfl) ?_
        intro K hK
        go_simp
        refine hK _ _ (fun h => absurd h (by decide +kernel)) ?_
        clear hK
        refine wpAnyS_done (by kernel_rfl) ?_
        go_wp2_with fail
        go_meet
        exact ⟨gn, rfl, rfl, KN, K1, HX⟩
    case rest =>
      obtain ⟨n2, rfl, rfl, K2, K1, HX⟩ := hcut
      have h1 := K1.out.cell
      have h2 := K2.out.cell
      go_wp2_with fail
      refine (eqPot_refl r0 r1 r2 r3 r4 _).mono ?_
      rintro r w9 ⟨rfl, hb⟩
      go_wp2
      go_ret
      exact ⟨rfl, below_more HX.out.2.2.2.2 hb (Nat.le_refl _)⟩
end Go.Proofs.Ytmngjlamnkkaeaa
