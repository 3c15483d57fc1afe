/- The law FnDiscounts. -/
import Derived.Test.YtbkmfhdagnlgiaaDiscLaw
import Derived.Test.YtbkmfhdagnlgiaaOpenI
set_option linter.unusedVariables false
namespace Go.Proofs.Ytbkmfhdagnlgiaa
open Go.RowKit

theorem r8Long_any (A A' : Option Addr) (c c' n n' : Nat) (w : World) (h : n ≤ maxLen) (h' : n' ≤ maxLen) :
    Calls Try.prog 42 #[.slice A n c, .slice A' n' c'] w fun e w' => e = .returned (.bool (decide (1048576 < (n : Int)) || decide (1048576 < (n' : Int)))) ∧ w = w' := by
  unfold maxLen at h h'
  rcases Nat.lt_or_ge 1048576 n with a | a
  · go_enter Try.func42, Try.ntmps42
    go_wp2
    go_ret
    exact ⟨ret_bool (by simp; try omega), rfl⟩
  · rcases Nat.lt_or_ge 1048576 n' with b | b
    · go_enter Try.func42, Try.ntmps42
      go_wp2
      go_ret
      exact ⟨ret_bool (by simp; try omega), rfl⟩
    · go_enter Try.func42, Try.ntmps42
      go_wp2
      go_ret
      exact ⟨ret_bool (by simp; try omega), rfl⟩
theorem AD_ok (A : Option Addr) (c n : Nat) (p : Int) (zs : List Int) (w : World) (h : Rd w w.heap.size 1 A n (iv zs)) (hm : n ≤ 12) (hp : inB p 0 10000000 = true) (hs : sharesB zs = true) :
    Calls Try.prog 36 #[.int .i64 p, .slice A n c] w fun e w' => e = .returned (.tuple #[.int .i64 (discTo p zs n), .int .i64 0]) ∧ Below w.heap.size w w' := by
  have e : AfterDiscounts_L p zs = (discTo p zs n, 0) := by simp [AfterDiscounts_L, hp, hs, h.len]
  have := AfterDiscounts_i A c n p zs w h (by omega) (fun z hz => by
    obtain ⟨i, hi⟩ := List.getElem?_of_mem hz
    have b := (sharesB_t hs).2 i (List.getElem?_eq_some_iff.1 hi).1
    rw [getD_is hi] at b
    unfold i64R; omega)
  rw [e] at this
  exact this
theorem SP_any (A : Option Addr) (c n : Nat) (p : Int) (zs : List Int) (w : World) (h : Rd w w.heap.size 1 A n (iv zs)) (hm : n ≤ 12) (hp : inB p 0 10000000 = true) (hs : sharesB zs = true) :
    Calls Try.prog 39 #[.int .i64 p, .slice A n c] w (RetS 2 w (SplitPrice_L p zs).1 (SplitPrice_L p zs).2) :=
  SplitPrice_i A c n p zs w h (by omega) (fun z hz => by
    obtain ⟨i, hi⟩ := List.getElem?_of_mem hz
    have b := (sharesB_t hs).2 i (List.getElem?_eq_some_iff.1 hi).1
    rw [getD_is hi] at b
    unfold i64R; omega)
theorem SP_no (A : Option Addr) (c n : Nat) (p : Int) (zs : List Int) (w : World) (h : Rd w w.heap.size 1 A n (iv zs)) (hm : n ≤ 12) (hp : inB p 0 10000000 = true) (hs : sharesB zs = true) (h0 : sumTo zs n = 0) :
    Calls Try.prog 39 #[.int .i64 p, .slice A n c] w (RetS 2 w [] 7) := by
  have := SP_any A c n p zs w h hm hp hs
  rw [show SplitPrice_L p zs = ([], 7) by simp [SplitPrice_L, hp, hs, h.len, h0]] at this
  exact this
theorem SP_yes (A : Option Addr) (c n : Nat) (p : Int) (zs : List Int) (w : World) (h : Rd w w.heap.size 1 A n (iv zs)) (hm : n ≤ 12) (hp : inB p 0 10000000 = true) (hs : sharesB zs = true) (h0 : sumTo zs n ≠ 0) :
    Calls Try.prog 39 #[.int .i64 p, .slice A n c] w (RetS 2 w (splitTo p (sumTo zs n) zs n) 0) := by
  have := SP_any A c n p zs w h hm hp hs
  rw [show SplitPrice_L p zs = (splitTo p (sumTo zs n) zs n, 0) by simp only [SplitPrice_L, hp, hs, h.len, if_true, if_neg h0]] at this
  exact this
theorem SG_i (p s l : Int) (w : World) (hp : inB p 0 10000000 = true) (hs : inB s 0 1000 = true) (hl : inB l 0 10000000 = true) :
    Calls Try.prog 22 #[.int .i64 p, .int .i64 s, .int .i64 l] w fun e w' => e = .returned (.tuple #[.int .i64 (getsL p s l), .int .i64 0]) ∧ w = w' := by
  have := SellerGets_i p s l w
  rw [show sgL p s l = (getsL p s l, 0) by simp [sgL, ok3_t hp hs hl]] at this
  exact this
theorem SG_s (p s l : Int) (w : World) (hp : inB p 0 10000000 = true) (hs : inB s 0 1000 = true) (hl : inB l 0 10000000 = true) :
    Calls Try.prog 21 #[.int .i64 p, .int .i64 s, .int .i64 l] w fun e w' => e = .returned (.tuple #[.int .i64 (getsL p s l), .int .i64 0]) ∧ w = w' := by
  have := SellerGets_s p s l w
  rw [show sgL p s l = (getsL p s l, 0) by simp [sgL, ok3_t hp hs hl]] at this
  exact this
theorem SG_no (p s l : Int) (w : World) (hp : p < 0) :
    Calls Try.prog 21 #[.int .i64 p, .int .i64 s, .int .i64 l] w fun e w' => e = .returned (.tuple #[.int .i64 0, .int .i64 2]) ∧ w = w' := by
  have := SellerGets_s p s l w
  rw [show sgL p s l = (0, 2) by
    have g : inB p 0 10000000 = false := by
      cases g : inB p 0 10000000
      · rfl
      · have := inB_t g; omega
    simp [sgL, ok3_a g]] at this
  exact this
theorem PG_ok (a s l : Int) (w : World) (a0 : 0 ≤ a) (a1 : a ≤ 599990) (s0 : 0 ≤ s) (s1 : s ≤ 900) (l0 : 0 ≤ l) (l1 : l ≤ 5900) :
    Calls Try.prog 33 #[.int .i64 a, .int .i64 s, .int .i64 l] w fun e w' => (∃ k : Int, e = .returned (.tuple #[.int .i64 k, .int .i64 0]) ∧ 0 ≤ k ∧ k ≤ 10000000 ∧ a ≤ getsL k s l ∧ (k = 0 ∨ getsL (k - 1) s l < a)) ∧ w = w' := by
  have hg := gets_most a1 s0 s1 l0 l1
  have e : ptgL a s l = (bs (ptgP a s l) 0 10000000, 0) := by
    rw [ptgL, ok3_t (inB_mk ⟨a0, by omega⟩) (inB_mk ⟨s0, by omega⟩) (inB_mk ⟨l0, by omega⟩), if_pos rfl, if_neg (by omega)]
  have := PriceToGet_i a s l w
  rw [e] at this
  refine this.mono ?_
  rintro r w' ⟨rfl, rfl⟩
  obtain ⟨b1, b2, b3, b4⟩ := bs_spec (ptgP a s l) 10000000 0 10000000 (by omega) (by omega) (by simpa [ptgP] using hg)
  refine ⟨⟨_, rfl, b1, b2, by simpa [ptgP] using b3, ?_⟩, rfl⟩
  rcases b4 with b4 | b4
  · exact .inl b4
  · exact .inr (by simpa [ptgP] using b4)

set_option maxRecDepth 100000 in
set_option maxHeartbeats 3000000 in
theorem FnDiscounts_walk (v0 v1 : Value) (w : World) (i0 : IsU8S w v0) (i1 : IsU8S w v1) :
    Calls Try.prog 14 #[v0, v1] w fun e w' => e = .returned (.bool true) ∧ Below w.heap.size w w' := by
  obtain ⟨A0, n0, c0, bs0, rfl, m0, R0, hb0⟩ := i0
  obtain ⟨A1, n1, c1, bs1, rfl, m1, R1, hb1⟩ := i1
  have M0 := Lib.hid m0
  have M1 := Lib.hid m1
  clear m0 m1
  have H0 := Lib.hid R0
  have H1 := Lib.hid R1
  have HB0 := Lib.hid hb0
  have HB1 := Lib.hid hb1
  clear R0 R1 hb0 hb1
  rcases Nat.lt_or_ge 1048576 n0 with nn0 | nn0
  · go_enter Try.func14, Try.ntmps14
    go_wp2_with ((go_at_call 42; refine (r8Long_any _ _ _ _ _ _ _ M0.out M1.out).mono ?_; rintro e w' ⟨rfl, rfl⟩))
    go_ret
    exact ⟨rfl, Below.refl _ _⟩
  rcases Nat.lt_or_ge 1048576 n1 with nn1 | nn1
  · go_enter Try.func14, Try.ntmps14
    go_wp2_with ((go_at_call 42; refine (r8Long_any _ _ _ _ _ _ _ M0.out M1.out).mono ?_; rintro e w' ⟨rfl, rfl⟩))
    go_ret
    exact ⟨rfl, Below.refl _ _⟩
  have BW := Lib.hid (Below.refl w.heap.size w)
  obtain ⟨p, HP⟩ : ∃ p : Int, Hid (rWide bs0 0 60000 = p) := ⟨_, Lib.hid rfl⟩
  have pb := rWide_bd bs0 0 (m := 60000) (by omega)
  rw [HP.out] at pb
  obtain ⟨n, hm⟩ : ∃ n : Nat, rAt bs1 0 6 = (n : Int) - 1 := ⟨(rAt bs1 0 6 + 1).toNat, by have := rAt_bd bs1 0 (m := 6) (by omega); omega⟩
  have mb := rAt_bd bs1 0 (m := 6) (by omega)
  rw [hm] at mb
  have HM := Lib.hid hm
  clear hm
  obtain ⟨zs, HZ⟩ : ∃ zs, Hid (zs = dsZ bs1 n) := ⟨_, Lib.hid rfl⟩
  have ZL : Hid (zs.length = n) := Lib.hid (by rw [HZ.out, dsZ_len])
  have ZS : Hid (sharesB zs = true) := Lib.hid (by rw [HZ.out]; exact dsZ_sh (by omega))
  have ZB : Hid (∀ j, j ≤ n → 0 ≤ sumTo zs j ∧ sumTo zs j ≤ 1000 * j) := Lib.hid (by have := sumTo_bd (sharesB_t ZS.out).2; rw [ZL.out] at this; exact this)
  have ZE : Hid (∀ k, k < zs.length → 0 ≤ zs.getD k 0 ∧ zs.getD k 0 ≤ 1000) := Lib.hid (sharesB_t ZS.out).2
  go_enter Try.func14, Try.ntmps14
  go_wp2_with ((go_at_call 42; refine (r8Long_any _ _ _ _ _ _ _ M0.out M1.out).mono ?_; rintro e w' ⟨rfl, rfl⟩))
  go_wp2_with fail
  refine (r8Wide_any _ _ _ _ bs0 _ _ _ H0.out HB0.out nn0 (by omega) (by omega) (by omega) (by omega)).mono ?_
  rintro r w' ⟨rfl, rfl⟩
  rw [HP.out]
  have O0 := Lib.hid (own_empty w 2)
  have b0 := Lib.hid ((Below.refl w.heap.size w).alloc (Nat.le_refl _) (.cells #[] 2))
  go_wp2_with fail
  generalize w.alloc (.cells #[] 2) = w0 at O0 b0 ⊢
  go_loopw [6, 7, 8] (fun v s i wr => ∃ j : Nat, j ≤ n ∧ s = .int .i64 (sumTo zs j) ∧ i = .int .i64 j ∧ Hid (wr.ownsRow w.heap.size 2 1 v j (iv (zs.take j))) ∧ Hid (Below w.heap.size w wr)) (fun _ _ i _ => n - (intOf i).toNat)
  case atStart => exact ⟨0, Nat.zero_le _, rfl, rfl, O0, b0⟩
  case round =>
    obtain ⟨j, hj, rfl, rfl, hv, hb⟩ := hrel
    have hsz := hb.out.size
    go_wp2_with fail
    refine (r8At_any _ _ _ _ bs1 _ _ _ (H1.out.below hb.out) HB1.out nn1 (by omega) (by omega) (by omega) (by omega)).mono ?_
    rintro r w' ⟨rfl, rfl⟩
    rw [HM.out]
    by_cases hlt : j < n
    · go_wp2_with fail
      refine (r8At_any _ _ _ _ bs1 _ _ _ (H1.out.below hb.out) HB1.out nn1 (by omega) (by omega) (by omega) (by omega)).mono ?_
      rintro r w' ⟨rfl, rfl⟩
      obtain ⟨z, hz⟩ : ∃ z, 10 * rAt bs1 (1 + (j : Int)) 60 = 10 * z ∧ rAt bs1 (1 + (j : Int)) 60 = z := ⟨_, rfl, rfl⟩
      have zb := rAt_bd bs1 (1 + (j : Int)) (m := 60) (by omega)
      have GZ : Hid (zs[j]? = some (10 * z)) := Lib.hid (by rw [HZ.out, dsZ_get hlt, hz.2])
      have TZ : Hid (zs.take (j + 1) = zs.take j ++ [10 * z]) := Lib.hid (by rw [HZ.out, dsZ_take hlt, hz.2])
      rw [hz.2] at zb ⊢
      clear hz
      have tl : (zs.take j).length = j := by rw [List.length_take, ZL.out]; omega
      have TL := Lib.hid tl
      clear tl
      obtain ⟨jn, ejn⟩ : ∃ jn, jn = j + 1 := ⟨_, rfl⟩
      have JN := Lib.hid ejn
      have j1 : j < jn := by omega
      have j2 : jn ≤ n := by omega
      clear ejn
      have sb := ZB.out j hj
      have SN := Lib.hid (sumTo_next GZ.out)
      go_wp2_with (at_builtin; refine app1 rfl (.tmp 47) (.tmp 53) rfl w.heap.size _ (zs.take j) (10 * z) rfl (by rw [TL.out]; exact hv.out) rfl hsz (by rw [TL.out]; omega) ?_; intro v1 w1 ho1 hb1; rw [← TZ.out, ← JN.out, show (zs.take jn).length = jn by rw [List.length_take, ZL.out]; omega] at ho1; obtain ⟨A2, cp2, rfl⟩ := own_val ho1; have V1 := Lib.hid ho1; have b1 := Lib.hid (hb.out.trans hb1); clear ho1 hb1; obtain ⟨b, o, rfl, hbB, hc⟩ := (Rd.own V1.out).ints (by omega); have c0 : w1.cell? ⟨b, o + j, none⟩ = some (.int .i64 (10 * z)) := hc j _ (by rw [List.getElem?_take_of_lt (by omega)]; exact GZ.out); clear hc)
      go_roundw
      case rel =>
        have e := JN.out
        subst e
        exact ⟨j + 1, by omega, by rw [SN.out], by go_num, V1, b1⟩
      case measure => simp [intOf]; omega
    · obtain rfl : n = j := by omega
      have hvv := hv.out
      rw [List.take_of_length_le (by rw [ZL.out]; omega)] at hvv
      obtain ⟨Ap, cp, rfl⟩ := own_val hvv
      have V := Lib.hid hvv
      clear hvv hv
      have PI : Hid (inB (10 * p) 0 10000000 = true) := Lib.hid (inB_mk ⟨by omega, by omega⟩)
      go_wp2_with fail
      refine (AD_ok _ _ _ _ zs _ ((RdIn.own V.out).all (Nat.le_refl _)) (by omega) PI.out ZS.out).mono ?_
      rintro r w2 ⟨rfl, hb2⟩
      have b2 := Lib.hid (below_more hb.out hb2 (Nat.le_refl _))
      have V2 := Lib.hid (own_below V.out hb2)
      have ba := Lib.hid ((Below.refl w2.heap.size w2).alloc (Nat.le_refl _) (.cells #[] 2))
      clear hb2 V
      go_wp2_with fail
      generalize hw3 : w2.alloc (.cells #[] 2) = w3 at ba ⊢
      clear hw3
      refine (AD_ok _ _ 0 _ [] _ ⟨rfl, fun h => absurd h (by omega)⟩ (by omega) PI.out rfl).mono ?_
      rintro r w4 ⟨rfl, hb4⟩
      have V4 := Lib.hid (own_below (own_below V2.out ba.out) hb4)
      have b4 := Lib.hid (below_more (below_more b2.out ba.out (Nat.le_refl _)) hb4 (Nat.le_refl _))
      clear hb4 V2 ba b2 hb
      have HD : Hid (∀ k, k ≤ n → 0 ≤ discTo (10 * p) zs k ∧ discTo (10 * p) zs k ≤ 10 * p) := Lib.hid (by have := discTo_bd (p := 10 * p) (zs := zs) (by omega) ZE.out; rw [ZL.out] at this; exact this)
      have D0 : discTo (10 * p) [] 0 = 10 * p := rfl
      rw [D0]
      clear D0
      go_wp2
      go_loop [13, 14] (fun x i => ∃ k : Nat, k ≤ n ∧ x = .int .i64 (discTo (10 * p) zs k) ∧ i = .int .i64 k) (fun _ i => n - (intOf i).toNat)
      case atStart => exact ⟨0, Nat.zero_le _, rfl, rfl⟩
      case round =>
        obtain ⟨k, hk, rfl, rfl⟩ := hrel
        by_cases hlt : k < n
        · obtain ⟨z, hz, _⟩ := getD_of (l := zs) (i := k) (by rw [ZL.out]; exact hlt)
          obtain ⟨b, o, rfl, hbB, hc⟩ := (Rd.own V4.out).ints (by omega)
          have c0 : w4.cell? ⟨b, o + k, none⟩ = some (.int .i64 z) := hc k z hz
          have zb := ZE.out k (by rw [ZL.out]; exact hlt)
          rw [getD_is hz] at zb
          have db := HD.out k hk
          have st := disc_step db.1 db.2 zb.1 zb.2
          have HF := Lib.hid (discTo_next (p := 10 * p) hz)
          clear hc hz
          go_wp2
          go_round
          case rel => exact ⟨k + 1, by omega, by rw [HF.out], by go_num⟩
          case measure => simp [intOf]; omega
        · obtain rfl : n = k := by omega
          have db := HD.out (n) (Nat.le_refl _)
          generalize discTo (10 * p) zs (n) = dd at db ⊢
          have sb := ZB.out (n) (Nat.le_refl _)
          by_cases h0 : sumTo zs (n) = 0
          · have S0 := Lib.hid h0
            rw [h0]
            clear h0 sb
            go_wp2_with fail
            refine (SP_no _ _ _ _ zs _ ((RdIn.own V4.out).all (Nat.le_refl _)) (by omega) PI.out ZS.out S0.out).mono ?_
            rintro r w5 ⟨v5, rfl, o5, hb5⟩
            obtain ⟨A5, c5, rfl⟩ := own_val o5
            have b5 := Lib.hid (below_more b4.out hb5 (Nat.le_refl _))
            clear o5 hb5 b4 V4
            go_wp2_with fail
            refine (r8At_any _ _ _ _ bs1 _ _ _ (H1.out.below b5.out) HB1.out nn1 (by omega) (by omega) (by omega) (by omega)).mono ?_
            rintro r w' ⟨rfl, rfl⟩
            have e1 := rAt_bd bs1 20 (m := 19) (by omega)
            generalize rAt bs1 20 19 = s at e1 ⊢
            go_wp2_with fail
            refine (r8At_any _ _ _ _ bs1 _ _ _ (H1.out.below b5.out) HB1.out nn1 (by omega) (by omega) (by omega) (by omega)).mono ?_
            rintro r w' ⟨rfl, rfl⟩
            have e2 := rAt_bd bs1 21 (m := 60) (by omega)
            generalize rAt bs1 21 60 = l at e2 ⊢
            have IS : Hid (inB (50 * s) 0 1000 = true) := Lib.hid (inB_mk ⟨by omega, by omega⟩)
            have IL : Hid (inB (100 * l) 0 10000000 = true) := Lib.hid (inB_mk ⟨by omega, by omega⟩)
            have gf := gets_facts (p := 10 * p) (s := 50 * s) (l := 100 * l) (by omega) (by omega) (by omega) (by omega) (by omega) (by omega)
            go_wp2_with fail
            refine (SG_i _ _ _ _ PI.out IS.out IL.out).mono ?_
            rintro r w' ⟨rfl, rfl⟩
            go_wp2_with fail
            refine (SG_i _ _ _ _ (inB_mk ⟨by omega, by omega⟩) IS.out IL.out).mono ?_
            rintro r w' ⟨rfl, rfl⟩
            generalize getsL (10 * p) (50 * s) (100 * l) = g1 at gf ⊢
            generalize getsL (10 * p + 10) (50 * s) (100 * l) = g2 at gf ⊢
            go_wp2_with fail
            refine (r8Wide_any _ _ _ _ bs1 _ _ _ (H1.out.below b5.out) HB1.out nn1 (by omega) (by omega) (by omega) (by omega)).mono ?_
            rintro r w' ⟨rfl, rfl⟩
            have e3 := rWide_bd bs1 22 (m := 60000) (by omega)
            generalize rWide bs1 22 60000 = am at e3 ⊢
            go_wp2_with fail
            refine (PG_ok _ _ _ _ (by omega) (by omega) (by omega) (by omega) (by omega) (by omega)).mono ?_
            rintro r w' ⟨⟨nd, rfl, d0, d1, d2, d3⟩, rfl⟩
            have D3 := Lib.hid d3
            clear d3
            go_wp2_with fail
            refine (SG_s _ _ _ _ (inB_mk ⟨by omega, by omega⟩) IS.out IL.out).mono ?_
            rintro r w' ⟨rfl, rfl⟩
            by_cases z0 : nd = 0
            · subst z0
              generalize getsL 0 (50 * s) (100 * l) = y1 at d2 ⊢
              go_wp2_with fail
              refine (SG_no _ _ _ _ (by omega)).mono ?_
              rintro r w' ⟨rfl, rfl⟩
              go_wp2
              go_ret
              exact ⟨ret_bool (by simp; try omega), b5.out⟩
            · have d3 : getsL (nd - 1) (50 * s) (100 * l) < 10 * am := D3.out.resolve_left z0
              generalize getsL nd (50 * s) (100 * l) = y1 at d2 ⊢
              go_wp2_with fail
              refine (SG_s _ _ _ _ (inB_mk ⟨by omega, by omega⟩) IS.out IL.out).mono ?_
              rintro r w' ⟨rfl, rfl⟩
              generalize getsL (nd - 1) (50 * s) (100 * l) = y2 at d3 ⊢
              go_wp2
              go_ret
              exact ⟨ret_bool (by simp; try omega), b5.out⟩
          · have S0 := Lib.hid h0
            obtain ⟨a, ha⟩ : ∃ a, a = sumTo zs (n) := ⟨_, rfl⟩
            have HA := Lib.hid ha
            rw [← ha] at h0 sb ⊢
            have q0 : (a == 0) = false := by simpa using h0
            have q1 : (a != 0) = true := by simpa using h0
            have a1 : 1 ≤ a := by omega
            have a2 : 0 < a := by omega
            have a3 : decide (0 < a) = true := by simpa using a2
            clear h0 ha
            go_wp2_with fail
            refine (SP_yes _ _ _ _ zs _ ((RdIn.own V4.out).all (Nat.le_refl _)) (by omega) PI.out ZS.out S0.out).mono ?_
            rintro r w5 ⟨v5, rfl, o5, hb5⟩
            rw [← HA.out, splitTo_len] at o5
            have sp1 := sum_split (10 * p) a zs
            rw [ZL.out] at sp1
            have SPL := Lib.hid sp1
            have spg : Hid (∀ k, k < n → (splitTo (10 * p) a zs (n))[k]? = some (10 * p * sumTo zs (k + 1) / a - 10 * p * sumTo zs k / a)) := Lib.hid fun k hk => split_get hk
            clear sp1
            obtain ⟨A5, c5, rfl⟩ := own_val o5
            have V5 := Lib.hid o5
            have V6 := Lib.hid (own_below V4.out hb5)
            have b5 := Lib.hid (below_more b4.out hb5 (Nat.le_refl _))
            clear o5 hb5 b4 V4
            go_wp2
            go_loop [17, 18, 19] (fun x y i => ∃ k : Nat, k ≤ n ∧ x = .int .i64 (10 * p * sumTo zs k / a) ∧ y = .int .i64 (sumTo zs k) ∧ i = .int .i64 k) (fun _ _ i => n - (intOf i).toNat)
            case atStart => exact ⟨0, Nat.zero_le _, by simp [sumTo], rfl, rfl⟩
            case round =>
              obtain ⟨k, hk, rfl, rfl, rfl⟩ := hrel
              by_cases hlt : k < n
              · obtain ⟨z, hz, _⟩ := getD_of (l := zs) (i := k) (by rw [ZL.out]; exact hlt)
                obtain ⟨b, o, rfl, hbB, hc⟩ := (Rd.own V6.out).ints (by omega)
                have c0 : w5.cell? ⟨b, o + k, none⟩ = some (.int .i64 z) := hc k z hz
                obtain ⟨b', o', rfl, hbB', hc'⟩ := (Rd.own V5.out).ints (by omega)
                have c1 : w5.cell? ⟨b', o' + k, none⟩ = some (.int .i64 (10 * p * sumTo zs (k + 1) / a - 10 * p * sumTo zs k / a)) := hc' k _ (spg.out k hlt)
                have zb := ZE.out k (by rw [ZL.out]; exact hlt)
                rw [getD_is hz] at zb
                have HF := Lib.hid (sumTo_next hz)
                have s1 := ZB.out k hk
                have s2 := ZB.out (k + 1) hlt
                rw [HF.out] at s2 c1
                have m1 := mul_part (p := 10 * p) (s := sumTo zs k) (by omega) (by omega) s1.1 (by omega) a1
                have m2 := mul_part (p := 10 * p) (s := sumTo zs k + z) (by omega) (by omega) (by omega) (by omega) a1
                have mm : 10 * p * sumTo zs k / a ≤ 10 * p * (sumTo zs k + z) / a := Int.ediv_le_ediv (by omega) (Int.mul_le_mul_of_nonneg_left (by omega) (by omega))
                have nz : decide (10 * p * (sumTo zs k + z) / a - 10 * p * sumTo zs k / a < 0) = false := by simp; omega
                have ne : 10 * p * sumTo zs k / a + (10 * p * (sumTo zs k + z) / a - 10 * p * sumTo zs k / a) = 10 * p * (sumTo zs k + z) / a := by omega
                clear hc hc' hz
                go_wp2
                go_round
                case rel => exact ⟨k + 1, by omega, by rw [HF.out], by rw [HF.out], by go_num⟩
                case measure => simp [intOf]; omega
              · obtain rfl : n = k := by omega
                rw [← HA.out]
                go_wp2_with fail
                refine (r8At_any _ _ _ _ bs1 _ _ _ (H1.out.below b5.out) HB1.out nn1 (by omega) (by omega) (by omega) (by omega)).mono ?_
                rintro r w' ⟨rfl, rfl⟩
                have e1 := rAt_bd bs1 20 (m := 19) (by omega)
                generalize rAt bs1 20 19 = s at e1 ⊢
                go_wp2_with fail
                refine (r8At_any _ _ _ _ bs1 _ _ _ (H1.out.below b5.out) HB1.out nn1 (by omega) (by omega) (by omega) (by omega)).mono ?_
                rintro r w' ⟨rfl, rfl⟩
                have e2 := rAt_bd bs1 21 (m := 60) (by omega)
                generalize rAt bs1 21 60 = l at e2 ⊢
                have IS : Hid (inB (50 * s) 0 1000 = true) := Lib.hid (inB_mk ⟨by omega, by omega⟩)
                have IL : Hid (inB (100 * l) 0 10000000 = true) := Lib.hid (inB_mk ⟨by omega, by omega⟩)
                have gf := gets_facts (p := 10 * p) (s := 50 * s) (l := 100 * l) (by omega) (by omega) (by omega) (by omega) (by omega) (by omega)
                go_wp2_with fail
                refine (SG_i _ _ _ _ PI.out IS.out IL.out).mono ?_
                rintro r w' ⟨rfl, rfl⟩
                go_wp2_with fail
                refine (SG_i _ _ _ _ (inB_mk ⟨by omega, by omega⟩) IS.out IL.out).mono ?_
                rintro r w' ⟨rfl, rfl⟩
                generalize getsL (10 * p) (50 * s) (100 * l) = g1 at gf ⊢
                generalize getsL (10 * p + 10) (50 * s) (100 * l) = g2 at gf ⊢
                go_wp2_with fail
                refine (r8Wide_any _ _ _ _ bs1 _ _ _ (H1.out.below b5.out) HB1.out nn1 (by omega) (by omega) (by omega) (by omega)).mono ?_
                rintro r w' ⟨rfl, rfl⟩
                have e3 := rWide_bd bs1 22 (m := 60000) (by omega)
                generalize rWide bs1 22 60000 = am at e3 ⊢
                go_wp2_with fail
                refine (PG_ok _ _ _ _ (by omega) (by omega) (by omega) (by omega) (by omega) (by omega)).mono ?_
                rintro r w' ⟨⟨nd, rfl, d0, d1, d2, d3⟩, rfl⟩
                have D3 := Lib.hid d3
                clear d3
                go_wp2_with fail
                refine (SG_s _ _ _ _ (inB_mk ⟨by omega, by omega⟩) IS.out IL.out).mono ?_
                rintro r w' ⟨rfl, rfl⟩
                by_cases z0 : nd = 0
                · subst z0
                  generalize getsL 0 (50 * s) (100 * l) = y1 at d2 ⊢
                  go_wp2_with fail
                  refine (SG_no _ _ _ _ (by omega)).mono ?_
                  rintro r w' ⟨rfl, rfl⟩
                  go_wp2
                  go_ret
                  exact ⟨ret_bool (by simp; try omega), b5.out⟩
                · have d3 : getsL (nd - 1) (50 * s) (100 * l) < 10 * am := D3.out.resolve_left z0
                  generalize getsL nd (50 * s) (100 * l) = y1 at d2 ⊢
                  go_wp2_with fail
                  refine (SG_s _ _ _ _ (inB_mk ⟨by omega, by omega⟩) IS.out IL.out).mono ?_
                  rintro r w' ⟨rfl, rfl⟩
                  generalize getsL (nd - 1) (50 * s) (100 * l) = y2 at d3 ⊢
                  go_wp2
                  go_ret
                  exact ⟨ret_bool (by simp; try omega), b5.out⟩
end Go.Proofs.Ytbkmfhdagnlgiaa
