/- The gap of two planks: the reference's. -/
import Derived.Test.YtoodlpgamlelaaaGap
set_option linter.unusedVariables false
set_option linter.unusedSimpArgs false
namespace Go.Proofs.Ytoodlpgamlelaaa
open Go.RowKit

/-- a plank lies at an address -/
structure PlkAt (w : World) (b o : Nat) (x : PlankD) : Prop where
  lt : b < w.heap.size
  c1 : w.cell? ⟨b, o + 1, none⟩ = some (.int .i64 x.a1)
  c2 : w.cell? ⟨b, o + 2, none⟩ = some (.int .i64 x.a2)
  c3 : w.cell? ⟨b, o + 3, none⟩ = some (.int .i64 x.a3)
  c4 : w.cell? ⟨b, o + 4, none⟩ = some (.int .i64 x.a4)
  c5 : w.cell? ⟨b, o + 5, none⟩ = some (.int .i64 x.a5)
theorem PlkAt.next {w w' : World} {b o : Nat} {x : PlankD} (h : PlkAt w b o x) (hb : Below w.heap.size w w') : PlkAt w' b o x :=
  ⟨Nat.lt_of_lt_of_le h.lt hb.size, (hb.cell (p := ⟨b, o + 1, none⟩) h.lt).trans h.c1, (hb.cell (p := ⟨b, o + 2, none⟩) h.lt).trans h.c2, (hb.cell (p := ⟨b, o + 3, none⟩) h.lt).trans h.c3, (hb.cell (p := ⟨b, o + 4, none⟩) h.lt).trans h.c4, (hb.cell (p := ⟨b, o + 5, none⟩) h.lt).trans h.c5⟩
theorem PlkAt.of {w : World} {B b o n : Nat} {A : Option Addr} {ds : List PlankD} (h : Rd w B 6 A n (ds.flatMap plankF)) (hB : B ≤ w.heap.size) {i : Nat} {x : PlankD} (hx : ds[i]? = some x) (hi : i < n) (e : A = some ⟨b, o, none⟩) : PlkAt w b (o + i * 6) x := by
  obtain ⟨b', o', e', hl, hc⟩ := h.at_ plankF_len (by omega)
  rw [e] at e'
  injection e' with e'
  injection e' with e1 e2
  subst e1 e2
  exact ⟨by omega, hc i x 1 _ hx rfl, hc i x 2 _ hx rfl, hc i x 3 _ hx rfl, hc i x 4 _ hx rfl, hc i x 5 _ hx rfl⟩
set_option maxHeartbeats 2000000 in
theorem l03Density_g (b o : Nat) (x : PlankD) (w : World) (h : plankR x) (hp : PlkAt w b o x) :
    Calls Try.prog 46 #[.pointer (some ⟨b, o, none⟩)] w fun e w' => e = .returned (.int .i64 (densL x)) ∧ Below w.heap.size w w' := by
  have v := vol_bd h
  have DE : Hid (divL (1000000 * x.a4) (x.a1 * x.a2 * x.a3) = densL x) := Lib.hid rfl
  have hlt := hp.lt
  have d1 := bel_at (B := w.heap.size) hp.c1 hp.lt
  have d2 := bel_at (B := w.heap.size) hp.c2 hp.lt
  have d3 := bel_at (B := w.heap.size) hp.c3 hp.lt
  have d4 := bel_at (B := w.heap.size) hp.c4 hp.lt
  obtain ⟨r1, r2, r3, r4, r5⟩ := h
  clear hp
  obtain ⟨s0, a1, a2, a3, a4, a5⟩ := x
  simp only at *
  generalize densL ⟨s0, a1, a2, a3, a4, a5⟩ = D at DE ⊢
  have cm : Hid (a4 * 1000000 = 1000000 * a4) := Lib.hid (Int.mul_comm _ _)
  have CD := Lib.hid (fun w => l01Div_any (a4 * 1000000) (a1 * a2 * a3) w (by omega) (by omega))
  rw [cm.out, DE.out] at CD
  rw [← cm.out] at CD
  go_enter Try.func46, Try.ntmps46
  go_wp2_with fail
  (refine wp_region_bel w.heap.size w (Below.refl _ _) (by kernel_rfl) (by kernel_rfl) ?_; (repeat (go_big_quiet_step ((first | (go_at_call 47; exact bel_same (CD.out _)))))); refine wpQuiet_nil ?_; rintro w1 ⟨⟨_, hb⟩, rfl⟩)
  go_wp2
  go_ret
  exact ⟨rfl, hb⟩
theorem l00MaxG (a b z : Int) (h : z = if b < a then a else b) (w : World) :
    Calls Try.prog 55 #[.int .i64 a, .int .i64 b] w fun e w' => e = .returned (.int .i64 z) ∧ w = w' := by
  subst h
  by_cases h : b < a
  · rw [if_pos h]
    go_enter Try.func55, Try.ntmps55
    go_wp2
    go_ret
    exact ⟨rfl, rfl⟩
  · rw [if_neg h]
    go_enter Try.func55, Try.ntmps55
    go_wp2
    go_ret
    exact ⟨rfl, rfl⟩
set_option maxHeartbeats 2000000 in
theorem l03AbsG (a b : Int) (w : World) (ha : 0 ≤ a ∧ a ≤ 1000000000000) (hb : 0 ≤ b ∧ b ≤ 1000000000000) :
    Calls Try.prog 45 #[.int .i64 a, .int .i64 b] w fun e w' => e = .returned (.int .i64 (distL a b)) ∧ w = w' := by
  obtain ⟨z, hz⟩ : ∃ z, z = if b - a < a - b then a - b else b - a := ⟨_, rfl⟩
  have CM := Lib.hid (fun w => l00MaxG (a - b) (b - a) z hz w)
  have E : Hid (z = distL a b) := Lib.hid (by rw [hz]; unfold distL; split <;> split <;> omega)
  clear hz
  go_enter Try.func45, Try.ntmps45
  go_wp2_with ((go_at_call 55; refine (CM.out _).mono ?_; rintro e w' ⟨rfl, rfl⟩))
  go_ret
  exact ⟨ret_int E.out, rfl⟩
set_option maxRecDepth 100000 in
set_option maxHeartbeats 2000000 in
theorem l03Gap_g (b o b' o' : Nat) (x y : PlankD) (w : World) (h : plankR x) (h' : plankR y) (hp : PlkAt w b o x) (hq : PlkAt w b' o' y) :
    Calls Try.prog 25 #[.pointer (some ⟨b, o, none⟩), .pointer (some ⟨b', o', none⟩)] w fun e w' => e = .returned (.int .i64 (gapL x y)) ∧ Below w.heap.size w w' := by
  have b1 := dens_bd h
  have b2 := dens_bd h'
  have b3 := rng_bd h
  have b4 := rng_bd h'
  have CP : Hid (∀ wz, Below w.heap.size w wz → ∀ (bb oo : Nat) (z : PlankD), ((bb = b ∧ oo = o ∧ z = x) ∨ (bb = b' ∧ oo = o' ∧ z = y)) → Calls Try.prog 46 #[.pointer (some ⟨bb, oo, none⟩)] wz fun e w' => e = .returned (.int .i64 (densL z)) ∧ Below wz.heap.size wz w') := Lib.hid fun wz hz bb oo z hc => by
    rcases hc with ⟨rfl, rfl, rfl⟩ | ⟨rfl, rfl, rfl⟩
    · exact l03Density_g _ _ _ wz h (hp.next hz)
    · exact l03Density_g _ _ _ wz h' (hq.next hz)
  have d2 := bel_at (B := w.heap.size) hp.c2 hp.lt
  have d5 := bel_at (B := w.heap.size) hp.c5 hp.lt
  have e2 := bel_at (B := w.heap.size) hq.c2 hq.lt
  have e5 := bel_at (B := w.heap.size) hq.c5 hq.lt
  have G : Hid (gapL x y = distL (densL x) (densL y) + distL (divL (100 * x.a2) x.a5) (divL (100 * y.a2) y.a5)) := Lib.hid rfl
  unfold rngL at b3 b4
  obtain ⟨_, r2, _, _, r5⟩ := h
  obtain ⟨_, s2, _, _, s5⟩ := h'
  clear hp hq
  generalize gapL x y = GG at G ⊢
  obtain ⟨xa, hxa⟩ : ∃ z, z = x.a2 := ⟨_, rfl⟩
  obtain ⟨xb, hxb⟩ : ∃ z, z = x.a5 := ⟨_, rfl⟩
  obtain ⟨ya, hya⟩ : ∃ z, z = y.a2 := ⟨_, rfl⟩
  obtain ⟨yb, hyb⟩ : ∃ z, z = y.a5 := ⟨_, rfl⟩
  rw [← hxa] at d2 r2 b3 G
  rw [← hxb] at d5 r5 b3 G
  rw [← hya] at e2 s2 b4 G
  rw [← hyb] at e5 s5 b4 G
  clear hxa hxb hya hyb
  have q1 := dist_bd (a := densL x) (b := densL y) (by omega) (by omega)
  have q2 := dist_bd (a := divL (100 * xa) xb) (b := divL (100 * ya) yb) (by omega) (by omega)
  go_enter Try.func25, Try.ntmps25
  go_wp2_with fail
  (refine wp_region_bel w.heap.size w (Below.refl _ _) (by kernel_rfl) (by kernel_rfl) ?_; (repeat (go_big_quiet_step ((first | (go_at_call 46; exact bel_of (Nat.le_refl _) (CP.out _ (Bel.below _) _ _ _ (by first | exact .inl ⟨rfl, rfl, rfl⟩ | exact .inr ⟨rfl, rfl, rfl⟩))) | (go_at_call 47; exact bel_same (l01Div_any _ _ _ (by omega) (by omega))) | (go_at_call 45; exact bel_same (l03AbsG _ _ _ (by omega) (by omega))))))); refine wpQuiet_nil ?_; rintro w1 ⟨⟨_, hb⟩, rfl⟩)
  go_wp2
  go_ret
  exact ⟨ret_int G.out.symm, hb⟩
end Go.Proofs.Ytoodlpgamlelaaa
