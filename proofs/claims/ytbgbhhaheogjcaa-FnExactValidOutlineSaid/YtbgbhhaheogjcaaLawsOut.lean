/- The law of ValidOutline. -/
import Derived.Test.YtbgbhhaheogjcaaOutFns
import Derived.Test.YtbgbhhaheogjcaaOpenS
set_option linter.unusedVariables false
namespace Go.Proofs.Ytbgbhhaheogjcaa
open Go.ChangeShapes Go.WideShapes Go.ChangeAt Go.RowKit

section
variable {H : Type} {enc : TypeId × Value → H} {w : World} {r : Reach} {b0 base : Nat} {spare : Nat → Bool} {held : Bool} {v : Value} {d : DataW H} {p : List MemPlace}
def IsArcS (w : World) (v : Value) : Prop := ∃ (A : Option Addr) (n c : Nat) (ds : List ArcD), v = .slice A n c ∧ ds.length = n ∧ n ≤ maxLen ∧ Rd w w.heap.size 6 A n (ds.flatMap arcF)
set_option maxRecDepth 100000 in
theorem open_IsArcS (hv : Value.okWide Try.prog w r b0 51 v) (h : DataW.Trod enc Try.prog w base spare held 51 v d p) : IsArcS w v := by
  obtain ⟨A, n, c, rfl⟩ := okWide_slice Try.underlying51 hv
  obtain ⟨fuel, hf⟩ := h
  have c1 : Try.prog.cellsOf 2 = 1 := by kernel_rfl
  have c2 : Try.prog.cellsOf 111 = 2 := by kernel_rfl
  obtain ⟨A', n', c', ds, hcs, hl, hm, hr, hg⟩ := open_rows (good := fun x : ArcD => True) (by omega) arcF_len Try.underlying51 (by kernel_rfl) hf (by
    intro fuel cs y hl hf
    match cs, hl with
    | [x0, x1, x2, x3, x4, x5], _ =>
      have hg := field_at Try.underlying113 hf
      obtain ⟨n0, y0, g0⟩ := hg 0 _ rfl
      obtain ⟨n1, y1, g1⟩ := hg 1 _ rfl
      obtain ⟨n2, y2, g2⟩ := hg 2 _ rfl
      simp [c2] at g0 g1 g2
      have k0 := field_at Try.underlying111 g0
      have k1 := field_at Try.underlying111 g1
      have k2 := field_at Try.underlying111 g2
      obtain ⟨_, _, h0⟩ := k0 0 _ rfl
      obtain ⟨_, _, h1⟩ := k0 1 _ rfl
      obtain ⟨_, _, h2⟩ := k1 0 _ rfl
      obtain ⟨_, _, h3⟩ := k1 1 _ rfl
      obtain ⟨_, _, h4⟩ := k2 0 _ rfl
      obtain ⟨_, _, h5⟩ := k2 1 _ rfl
      obtain ⟨a0, e0, _, _⟩ := DataW.trod_int Try.underlying2 h0
      obtain ⟨a1, e1, _, _⟩ := DataW.trod_int Try.underlying2 h1
      obtain ⟨a2, e2, _, _⟩ := DataW.trod_int Try.underlying2 h2
      obtain ⟨a3, e3, _, _⟩ := DataW.trod_int Try.underlying2 h3
      obtain ⟨a4, e4, _, _⟩ := DataW.trod_int Try.underlying2 h4
      obtain ⟨a5, e5, _, _⟩ := DataW.trod_int Try.underlying2 h5
      simp [c1] at e0 e1 e2 e3 e4 e5
      subst e0 e1 e2 e3 e4 e5
      exact ⟨⟨a0, a1, a2, a3, a4, a5⟩, rfl, trivial⟩)
  simp [Value.cells] at hcs
  obtain ⟨rfl, rfl, rfl⟩ := hcs
  exact ⟨_, _, _, ds, rfl, hl, hm, hr⟩
end
set_option maxHeartbeats 2000000 in
theorem FnExactValidOutline_walk (v0 : Value) (w : World) (i0 : IsArcS w v0) :
    Calls Try.prog 9 #[v0] w fun e w' => e = .returned (.bool true) ∧ Below w.heap.size w w' := by
  obtain ⟨A, n, c, ds, rfl, hn, hm, hr⟩ := i0
  have HN := Lib.hid hn
  have H := Lib.hid hr
  clear hn hr
  have m2 := hm
  unfold maxLen at m2
  go_enter Try.func9, Try.ntmps9
  go_wp2_with fail
  refine (szArcS_any A c n _ w (by omega) (by omega) hm).mono ?_
  rintro r w1 ⟨q, hq, rfl, hb1⟩
  have b1 := Lib.hid hb1
  clear hb1
  rcases hq with rfl | ⟨q0, q1⟩
  · go_wp2
    go_ret
    exact ⟨rfl, b1.out⟩
  have nn : n ≤ 1048576 := by omega
  go_wp2_with fail
  refine (toArcS_any A c n ds _ HN.out (H.out.next b1.out) nn).mono ?_
  rintro r w2 ⟨rfl, k2, hb2⟩
  have b2 := Lib.hid (below_more b1.out hb2 (Nat.le_refl _))
  have R2 := Lib.hid (Rd.blk (n := n) (k := 6) (B := w2.heap.size) k2 (by rw [flat_len arcF_len, HN.out]) k2.lt)
  clear hb2 k2
  go_wp2_with fail
  refine (ValidOutline_s _ _ n ds _ HN.out R2.out nn).mono ?_
  rintro r w3 ⟨rfl, hb3⟩
  have b3 := Lib.hid (below_more b2.out hb3 (Nat.le_refl _))
  clear hb3 R2
  go_wp2_with fail
  refine (toArcS_any A c n ds _ HN.out (H.out.next b3.out) nn).mono ?_
  rintro r w4 ⟨rfl, k4, hb4⟩
  have b4 := Lib.hid (below_more b3.out hb4 (Nat.le_refl _))
  have R4 := Lib.hid (Rd.blk (n := n) (k := 6) (B := w4.heap.size) k4 (by rw [flat_len arcF_len, HN.out]) k4.lt)
  clear hb4 k4
  go_wp2_with fail
  refine (ValidOutline_i _ _ n ds _ HN.out R4.out nn).mono ?_
  rintro r w5 ⟨rfl, hb5⟩
  have b5 := Lib.hid (below_more b4.out hb5 (Nat.le_refl _))
  have R5 := Lib.hid (R4.out.next hb5)
  clear hb5 R4
  go_wp2_with fail
  refine (toArcS_any A c n ds _ HN.out (H.out.next b5.out) nn).mono ?_
  rintro r w6 ⟨rfl, k6, hb6⟩
  have b6 := Lib.hid (below_more b5.out hb6 (Nat.le_refl _))
  have R6 := Lib.hid (Rd.blk (n := n) (k := 6) (B := w6.heap.size) k6 (by rw [flat_len arcF_len, HN.out]) k6.lt)
  have R6' := Lib.hid (R5.out.next hb6)
  clear hb6 k6 R5
  go_wp2_with fail
  refine (eqArcS_refl _ _ _ _ n ds _ HN.out R6'.out R6.out nn).mono ?_
  rintro r w7 ⟨rfl, hb7⟩
  go_wp2
  go_ret
  exact ⟨rfl, below_more b6.out hb7 (Nat.le_refl _)⟩
end Go.Proofs.Ytbgbhhaheogjcaa
