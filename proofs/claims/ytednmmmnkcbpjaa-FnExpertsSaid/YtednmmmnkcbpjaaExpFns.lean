/- Experts that are drawn; the chances that some of them are right. -/
import Derived.Test.YtednmmmnkcbpjaaExpP
import Derived.Test.YtednmmmnkcbpjaaSrc
set_option linter.unusedVariables false
namespace Go.Proofs.Ytednmmmnkcbpjaa
open Go.RowKit

theorem tch_below {lo hi : Nat} {a b c : World} (h : Tch lo hi a b) (k : Below a.heap.size b c) : Tch lo hi a c :=
  ⟨k.os.trans h.os, k.tape.trans h.tape, k.output.trans h.output, Nat.le_trans h.size k.size, fun i h1 h2 => (k.block i h1).trans (h.block i h1 h2)⟩
def zOk (zs : List Int) : Prop := ∀ z ∈ zs, 0 ≤ z ∧ z ≤ 1000
theorem zOk_add {zs : List Int} {z : Int} (h : zOk zs) (z0 : 0 ≤ z) (z1 : z ≤ 1000) : zOk (zs ++ [z]) := by
  intro x hx
  simp at hx
  rcases hx with hx | hx
  · exact h x hx
  · subst hx; exact ⟨z0, z1⟩
set_option maxHeartbeats 2000000 in
theorem l15Draw_any (g M : Nat) (w : World) (h : SrcS w g M) (hM : M ≤ 1000000) :
    Calls Try.prog 28 #[.pointer (some ⟨g, 0, none⟩)] w fun e w' => ∃ (v : Value) (zs : List Int), e = .returned v ∧ w'.ownsRow w.heap.size 2 1 v zs.length (iv zs) ∧ zOk zs ∧ 1 ≤ zs.length ∧ zs.length ≤ 5 ∧ SrcS w' g (M + 24) ∧ Tch g (g + 1) w w' := by
  have H := Lib.hid h
  have hg := h.lt
  have O0 := Lib.hid (own_empty w 2)
  have B0 := (Below.refl w.heap.size w).alloc (Nat.le_refl _) (.cells #[] 2)
  have T0 := Lib.hid (Tch.of_below B0 g (g + 1))
  have S0 := Lib.hid (h.below B0 hg)
  clear h B0
  go_enter Try.func28, Try.ntmps28
  go_wp2_with fail
  generalize w.alloc (.cells #[] 2) = w0 at O0 T0 S0 ⊢
  have CP := pick_any g M 5 w0 S0.out (by omega) (by omega) (by omega)
  refine CP.mono ?_
  rintro r w1 ⟨⟨x, rfl, x0, x1⟩, hs1, ht1⟩
  have O1 := Lib.hid (own_tch O0.out ht1 (by omega))
  have T1 := Lib.hid (T0.out.trans ht1)
  have S1 := Lib.hid hs1
  clear ht1 hs1 CP O0 T0 S0
  obtain ⟨K, hK⟩ : ∃ K : Nat, (K : Int) = 1 + x := ⟨(1 + x).toNat, by omega⟩
  have k1 : 1 ≤ K ∧ K ≤ 5 := by omega
  have HK := Lib.hid hK
  clear hK
  go_wp2
  go_loopw [4, 3] (fun kv v wr => ∃ (j : Nat) (zs : List Int), kv = .int .i64 j ∧ 1 ≤ zs.length + j ∧ zs.length + j ≤ 5 ∧ Hid (zOk zs) ∧ Hid (wr.ownsRow w.heap.size 2 1 v zs.length (iv zs)) ∧ Hid (SrcS wr g (M + 4 * (6 - j))) ∧ Hid (Tch g (g + 1) w wr)) (fun kv _ _ => (intOf kv).toNat)
  case atStart => exact ⟨K, [], by have := HK.out; go_num, by simp; omega, by simp; omega, Lib.hid (by simp [zOk]), O1, Lib.hid (S1.out.mono (by omega)), T1⟩
  case round =>
    obtain ⟨j, zs, rfl, l1, l5, ZO, O, SO, T⟩ := hrel
    by_cases hj : 0 < j
    · have CP := pick_any g (M + 4 * (6 - j)) 60 wr SO.out (by omega) (by omega) (by omega)
      have hsz := T.out.size
      go_wp2_with fail
      refine CP.mono ?_
      rintro r w2 ⟨⟨y, rfl, y0, y1⟩, hs2, ht2⟩
      have O2 := own_tch O.out ht2 (show g + 1 ≤ w.heap.size by omega)
      have T2 := T.out.trans ht2
      clear CP O T SO
      have yb : 0 ≤ 10 * y ∧ 10 * y ≤ 590 := by omega
      obtain ⟨q, hq⟩ : ∃ q, q = 400 + 10 * y := ⟨_, rfl⟩
      have qb : 400 ≤ q ∧ q ≤ 990 := by omega
      have BA := (Below.refl w2.heap.size w2).alloc (Nat.le_refl _) (.cells #[.int .i64 q, .int .i64 q, .int .i64 q, .int .i64 q, .int .i64 q, .int .i64 0, .int .i64 1000] 2)
      have hs2' := T2.size
      have RA : RdIn (w2.alloc (.cells #[.int .i64 q, .int .i64 q, .int .i64 q, .int .i64 q, .int .i64 q, .int .i64 0, .int .i64 1000] 2)) (g + 1) (w2.alloc (.cells #[.int .i64 q, .int .i64 q, .int .i64 q, .int .i64 q, .int .i64 q, .int .i64 0, .int .i64 1000] 2)).heap.size 1 (some ⟨w2.heap.size, 0, none⟩) 7 (iv [q, q, q, q, q, 0, 1000]) :=
        RdIn.blk (xs := iv [q, q, q, q, q, 0, 1000]) (Blk.new w2 _ _) rfl (by omega) (by simp)
      have SA := hs2.below BA (by omega)
      have CA := among_any g (M + 4 * (6 - j) + 2) _ 7 7 _ _ SA (by omega) RA (by omega) (by omega)
      have TA := Lib.hid (T2.trans (Tch.of_below BA g (g + 1)))
      have OA := Lib.hid (O2.alloc (.cells #[.int .i64 q, .int .i64 q, .int .i64 q, .int .i64 q, .int .i64 q, .int .i64 0, .int .i64 1000] 2))
      clear O2 T2 ht2 hs2 BA RA SA
      have HQ := Lib.hid hq
      rw [hq] at CA TA OA
      clear hq
      go_wp2_with fail
      refine CA.mono ?_
      rintro r w3 ⟨⟨z, rfl, hz⟩, hs3, ht3⟩
      rw [← HQ.out] at hz
      have zb : 0 ≤ z ∧ z ≤ 1000 := by simp at hz; omega
      have O3 := Lib.hid (own_tch OA.out ht3 (show g + 1 ≤ w.heap.size by omega))
      have T3 := Lib.hid (TA.out.trans ht3)
      have S3 := Lib.hid hs3
      clear ht3 hs3 CA OA TA hz
      have hs3' := T3.out.size
      go_wp2_with (at_builtin; refine app1 rfl (.tmp 18) (.tmp 27) rfl w.heap.size u3 zs z rfl O3.out rfl (by omega) (by omega) ?_; intro v4 w4 o4 b4)
      have O4 := Lib.hid o4
      have T4 := Lib.hid (tch_below T3.out b4)
      have S4 := Lib.hid (S3.out.below b4 hg)
      clear o4 b4
      go_roundw
      case rel => exact ⟨j - 1, zs ++ [z], by go_num, by simp; omega, by simp; omega, Lib.hid (zOk_add ZO.out zb.1 zb.2), O4, Lib.hid (S4.out.mono (by omega)), T4⟩
      case measure => simp [intOf]; omega
    · obtain rfl : j = 0 := by omega
      go_wp2
      go_ret
      exact ⟨_, zs, rfl, O.out, ZO.out, by omega, by omega, SO.out.mono (by omega), T.out⟩
theorem R8Experts_any (A : Option Addr) (c n : Nat) (bs : List Int) (w : World) (h : Rd w w.heap.size 1 A n (bv bs)) (hb : ∀ b ∈ bs, byteR b) (hn : n ≤ 1048576) :
    Calls Try.prog 6 #[.slice A n c] w fun e w' => ∃ (v : Value) (zs : List Int), e = .returned v ∧ w'.ownsRow w.heap.size 2 1 v zs.length (iv zs) ∧ zOk zs ∧ 1 ≤ zs.length ∧ zs.length ≤ 5 ∧ Below w.heap.size w w' := by
  have C1 := l00From_any A c n bs w h hb hn
  clear h hb
  go_enter Try.func6, Try.ntmps6
  go_wp2_with fail
  refine C1.mono ?_
  rintro r w1 ⟨rfl, hs1, hb1⟩
  have C2 := l15Draw_any w.heap.size 0 w1 hs1 (by omega)
  have hsz := hb1.size
  have B1 := Lib.hid hb1
  clear C1 hs1 hb1
  go_wp2_with fail
  refine C2.mono ?_
  rintro r w2 ⟨v, zs, rfl, ho, hz, l1, l5, _, ht⟩
  have B2 := Lib.hid (ht.below B1.out (Nat.le_refl _) hsz)
  have O2 := Lib.hid (ho.mono hsz)
  clear ht ho C2
  go_wp2
  go_ret
  exact ⟨v, zs, rfl, O2.out, hz, l1, l5, B2.out⟩
set_option maxHeartbeats 1000000 in
theorem MajorityWays_ok (A : Option Addr) (c n : Nat) (zs : List Int) (w : World) (h : Rd w w.heap.size 1 A n (iv zs)) (hp : expB zs = true) :
    Calls Try.prog 7 #[.slice A n c] w fun e w' => e = .returned (.tuple #[.int .i64 (mj zs), .int .i64 (thou n), .int .i64 0]) ∧ Below w.heap.size w w' := by
  have E := expB_t hp
  rw [h.len] at E
  have e1 := E.1
  have e5 := E.2.1
  have C1 := majority_any A c n zs w h e1 e5 E.2.2
  have V := Lib.hid (ValidExperts_any A c n _ zs w h (by omega))
  rw [hp] at V
  clear h E hp
  go_enter Try.func7, Try.ntmps7
  go_wp2_with ((go_at_call 11; refine (V.out).mono ?_; rintro e w' ⟨rfl, rfl⟩))
  refine C1.mono ?_
  rintro r w1 ⟨rfl, hb1⟩
  have B1 := Lib.hid hb1
  clear C1 hb1
  go_wp2_with ((go_at_call 30; refine (allWays_any n _ e5).mono ?_; rintro e w' ⟨rfl, rfl⟩))
  go_ret3
  exact ⟨rfl, B1.out⟩
set_option maxHeartbeats 1000000 in
theorem AnyChance_ok (A : Option Addr) (c n : Nat) (zs : List Int) (w : World) (h : Rd w w.heap.size 1 A n (iv zs)) (hp : expB zs = true) :
    Calls Try.prog 9 #[.slice A n c] w fun e w' => e = .returned (.tuple #[.int .i64 (chL (frTo zs n 1 n) n), .int .i64 0]) ∧ Below w.heap.size w w' := by
  have E := expB_t hp
  have HN := h.len
  rw [HN] at E
  have e1 := E.1
  have e5 := E.2.1
  have C1 := waysFrom_any A c n 1 zs w h e5 e1 E.2.2
  rw [Nat.add_sub_cancel] at C1
  have V := Lib.hid (ValidExperts_any A c n _ zs w h (by omega))
  rw [hp] at V
  have fb := frTo_bd (l := 1) (wy_small HN e5 E.2.2) n
  have f1 : frTo zs n 1 n ≤ 6000000000000000 := by omega
  have f0 := fb.1
  clear h E hp fb HN
  go_enter Try.func9, Try.ntmps9
  go_wp2_with ((go_at_call 11; refine (V.out).mono ?_; rintro e w' ⟨rfl, rfl⟩))
  refine C1.mono ?_
  rintro r w1 ⟨rfl, hb1⟩
  have B1 := Lib.hid hb1
  clear C1 hb1
  go_wp2_with ((go_at_call 31; refine (chance_any _ n _ e1 e5 f0 f1).mono ?_; rintro e w' ⟨rfl, rfl⟩))
  go_ret2
  exact ⟨rfl, B1.out⟩
set_option maxHeartbeats 1000000 in
theorem ExactlyChance_ok (A : Option Addr) (c n k : Nat) (zs : List Int) (w : World) (h : Rd w w.heap.size 1 A n (iv zs)) (hp : expB zs = true) (hk : k ≤ n) :
    Calls Try.prog 12 #[.slice A n c, .int .i64 k] w fun e w' => e = .returned (.tuple #[.int .i64 (chL (wy zs n k) n), .int .i64 0]) ∧ Below w.heap.size w w' := by
  have E := expB_t hp
  have HN := h.len
  rw [HN] at E
  have e1 := E.1
  have e5 := E.2.1
  have C1 := rightWays_any A c n zs w h e5 E.2.2
  have V := Lib.hid (ValidExperts_any A c n _ zs w h (by omega))
  rw [hp] at V
  have fb := wy_small HN e5 E.2.2 k
  obtain ⟨x, hx⟩ : ∃ x, x = wy zs n k := ⟨_, rfl⟩
  rw [← hx] at fb ⊢
  have HX := Lib.hid hx
  have hk1 : k < n + 1 := by omega
  have hI : inB (k : Int) 0 n = true := inB_mk (by omega)
  have WI : Hid (∀ w : World, Calls Try.prog 36 #[.int .i64 k, .int .i64 0, .int .i64 n] w fun e w' => e = .returned (.bool true) ∧ w = w') := Lib.hid fun w => by have := within_any k 0 n w; rw [hI] at this; exact this
  clear h E hp HN hx hI
  go_enter Try.func12, Try.ntmps12
  go_wp2_with (first | (go_at_call 11; refine (V.out).mono ?_; rintro e w' ⟨rfl, rfl⟩) | (go_at_call 36; refine (WI.out _).mono ?_; rintro e w' ⟨rfl, rfl⟩))
  refine C1.mono ?_
  rintro r w1 ⟨g, rfl, hg, hf, hb1⟩
  have B1 := Lib.hid hb1
  have c0 : w1.cell? ⟨g, k, none⟩ = some (.int .i64 x) := by rw [HX.out]; exact hf.cell hk1
  clear C1 hb1 hf
  go_wp2_with ((go_at_call 31; refine (chance_any _ n _ e1 e5 fb.1 (by omega)).mono ?_; rintro e w' ⟨rfl, rfl⟩))
  go_ret2
  exact ⟨rfl, B1.out⟩
end Go.Proofs.Ytednmmmnkcbpjaa
