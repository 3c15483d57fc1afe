/- The best jury: BestJury of the reference. -/
import Derived.Test.YthmpcpcmmahheaaJuryFns
set_option linter.unusedVariables false
namespace Go.Proofs.Ythmpcpcmmahheaa
open Go.RowKit

theorem bS_step {zs : List Int} {n size P s s' : Nat} {x : JSt} (hP : 2 ^ n = P) (h : s ≤ P - 1) (hs : s = s' + 1) : bS zs n size x (P - 1 - s') = stS zs size (bS zs n size x (P - 1 - s)) (mems (bitS n s) n) := by
  rw [show P - 1 - s' = (P - 1 - s) + 1 by omega, bS, hP, show P - 1 - (P - 1 - s) = s by omega]
set_option maxRecDepth 100000 in
set_option maxHeartbeats 4000000 in
theorem BestJury_s (A : Option Addr) (c n : Nat) (zs : List Int) (w : World) (h : Rd w w.heap.size 1 A n (iv zs)) (hm : n ≤ 1048576) (hz : ∀ z ∈ zs, i64R z) :
    Calls Try.prog 15 #[.slice A n c] w (RetJ zs w) := by
  have HN := Lib.hid h.len
  have H := Lib.hid h
  clear h hz
  cases hp : expB zs
  · have HL : Hid (BestJury_L zs = ([], 0, 1)) := Lib.hid (by simp [BestJury_L, hp])
    go_enter Try.func15, Try.ntmps15
    go_wp2_with ((go_at_call 43; refine (l15Ok_any _ _ _ _ zs _ H.out hm).mono ?_; rintro e w' ⟨rfl, rfl⟩))
    go_ret3
    exact ⟨.slice none 0 0, by rw [HL.out]; rfl, by rw [HL.out]; exact World.ownsRow_nil _ _ _ _, Below.refl _ _⟩
  · have E := expB_t hp
    have HS : Hid (shOk zs) := Lib.hid E.2.2
    rw [HN.out] at E
    have e1 := E.1
    have e5 := E.2.1
    have HJ := Lib.hid (jury_same HS.out e1 e5)
    have HL : Hid (BestJury_L zs = (nv (bI zs n (2 ^ n)), chL (mj (sh zs (bI zs n (2 ^ n)))) (bI zs n (2 ^ n)).length, 0)) := Lib.hid (by simp [BestJury_L, hp, HN.out])
    obtain ⟨P, hP, q1, P1, P32⟩ := pow_is e5
    rw [hP] at HJ HL
    have HP := Lib.hid hP
    clear E hP
    have O0 := Lib.hid (own_empty w 2)
    have B0 := Lib.hid ((Below.refl w.heap.size w).alloc (Nat.le_refl _) (.cells #[] 2))
    go_enter Try.func15, Try.ntmps15
    go_wp2_with ((go_at_call 43; refine (l15Ok_any _ _ _ _ zs _ H.out hm).mono ?_; rintro e w' ⟨rfl, rfl⟩))
    clear hp
    generalize w.alloc (.cells #[] 2) = w0 at O0 B0 ⊢
    go_loopw [8, 5, 6, 7] (fun sz b m ch wr => ∃ (t z : Nat) (xb : List Nat) (xm xc : Int), z ≤ n + 2 ∧ Hid (z = 2 * t + 1) ∧ sz = .int .i64 z ∧ m = .int .i64 xm ∧ ch = .int .i64 xc ∧ Hid (oS zs n t = ⟨xb, xm, xc⟩) ∧ Hid (wr.ownsRow w.heap.size 2 1 b xb.length (iv (nv xb))) ∧ Hid (Below w.heap.size w wr)) (fun sz _ _ _ _ => n + 2 - (intOf sz).toNat)
    case atStart => exact ⟨0, 1, [], -1, 0, by omega, Lib.hid rfl, rfl, rfl, rfl, Lib.hid rfl, O0, B0⟩
    case round =>
      obtain ⟨t, z, xb, xm, xc, ht, HZ, rfl, rfl, rfl, HX, HO, hb⟩ := hrel
      by_cases hlt : z ≤ n
      · go_wp2
        go_loopw [9, 5, 6, 7] (fun nm b m ch wi => ∃ (s : Nat) (yb : List Nat) (ym yc : Int), s ≤ P - 1 ∧ nm = .int .i64 s ∧ m = .int .i64 ym ∧ ch = .int .i64 yc ∧ Hid (bS zs n z (oS zs n t) (P - 1 - s) = ⟨yb, ym, yc⟩) ∧ Hid (wi.ownsRow w.heap.size 2 1 b yb.length (iv (nv yb))) ∧ Hid (Below w.heap.size w wi)) (fun nm _ _ _ _ => (intOf nm).toNat)
        case atStart => exact ⟨P - 1, xb, xm, xc, Nat.le_refl _, by go_num, rfl, rfl, Lib.hid (by rw [Nat.sub_self, bS, HX.out]), HO, hb⟩
        case round =>
          obtain ⟨s, yb, ym, yc, hs, rfl, rfl, rfl, HY, HO, hb⟩ := hrel
          by_cases hs0 : 0 < s
          · obtain ⟨s', hs'⟩ : ∃ s', s = s' + 1 := ⟨s - 1, by omega⟩
            obtain ⟨M, hM⟩ : ∃ M, M = mems (bitS n s) n := ⟨_, rfl⟩
            obtain ⟨lm, hlm⟩ : ∃ lm, lm = M.length := ⟨_, rfl⟩
            have ML := mems_len (bitS n s) n
            rw [← hM, ← hlm] at ML
            have g1 := bS_step (zs := zs) (size := z) (x := oS zs n t) HP.out hs hs'
            rw [← hM, HY.out] at g1
            have HS' := Lib.hid g1
            have HS1 : Hid (s = s' + 1) := Lib.hid hs'
            clear g1 hs'
            have CJ := l15Some_any A c n s zs _ (H.out.next hb.out) e5 (by omega)
            rw [← hM, ← hlm] at CJ
            have HLM := Lib.hid hlm.symm
            clear hM hlm
            have hsz := hb.out.size
            go_wp2_with fail
            refine CJ.mono ?_
            rintro r w1 ⟨j1, j2, rfl, TJ, hb1⟩
            clear CJ
            obtain ⟨P1, P2, PS⟩ := TJ
            obtain ⟨A3, d3, rfl⟩ := own_val P1
            obtain ⟨A4, d4, rfl⟩ := own_val P2
            have HO := Lib.hid (own_below HO.out hb1)
            have Q1 := Lib.hid (P1.mono (base' := w.heap.size) hsz)
            have Q2 := Lib.hid (Rd.own P2)
            have hb := Lib.hid (below_more hb.out hb1 (Nat.le_refl _))
            clear P1 P2 PS hb1
            by_cases hm1 : lm = z
            · subst hm1
              have lm1 : 1 ≤ lm := by have := HZ.out; omega
              have HG := Lib.hid (show sc zs M = mj (sh zs M) * thou (5 - lm) by rw [sc, HLM.out])
              have CS := l15Scaled_any A4 d4 lm (sh zs M) w1 Q2.out (by omega) (sh_ok HS.out M)
              rw [← HG.out] at CS
              obtain ⟨q, hq⟩ : ∃ q, q = sc zs M := ⟨_, rfl⟩
              rw [← hq] at CS
              have HQ := Lib.hid hq
              clear hq HG
              rcases Int.lt_or_le ym q with hq | hq
              · have HB1 : Hid (bS zs n lm (oS zs n t) (P - 1 - s') = ⟨M, q, chL (mj (sh zs M)) lm⟩) := Lib.hid (by rw [HS'.out, stS, ← HQ.out, HLM.out, if_pos ⟨rfl, hq⟩])
                have mb := mj_thou (sh_ok HS.out M)
                rw [sh_len, HLM.out] at mb
                have mt := thou_le (i := lm) (by omega)
                have mjB : 0 ≤ mj (sh zs M) ∧ mj (sh zs M) ≤ 6000000000000000 := by omega
                have CM := fun w2 (hw : Below w1.heap.size w1 w2) => l15Most_any A4 d4 lm (sh zs M) w2 (Q2.out.next hw) (by omega) (by have := sh_ok HS.out M; unfold shOk at this; rw [sh_len, HLM.out] at this; exact this)
                have CM := Lib.hid CM
                clear mb mt
                go_wp2_with fail
                refine CS.mono ?_
                rintro r w2 ⟨rfl, hb2⟩
                have CM2 := CM.out w2 hb2
                clear CS
                have Q1 := Lib.hid (own_below Q1.out hb2)
                have hb := Lib.hid (below_more hb.out hb2 (Nat.le_refl _))
                clear hb2
                have hq2 : ym < q := hq
                go_wp2_with fail
                refine CM2.mono ?_
                rintro r w3 ⟨rfl, hb3⟩
                have Q1 := Lib.hid (own_below Q1.out hb3)
                have hb := Lib.hid (below_more hb.out hb3 (Nat.le_refl _))
                clear hb3 CM2
                go_wp2_with ((go_at_call 44; refine (l15Part_any _ lm _ (by omega) (by omega) mjB.1 mjB.2).mono ?_; rintro e w' ⟨rfl, rfl⟩))
                go_roundw
                case rel => exact ⟨s', M, q, chL (mj (sh zs M)) lm, by have := HS1.out; omega, by have := HS1.out; go_num, rfl, rfl, HB1, by rw [HLM.out]; exact Q1, hb⟩
                case measure => have := HS1.out; simp [intOf]; omega
              · have HB1 : Hid (bS zs n lm (oS zs n t) (P - 1 - s') = ⟨yb, ym, yc⟩) := Lib.hid (by rw [HS'.out, stS, ← HQ.out, HLM.out, if_neg (fun h => by have := h.2; simp at this; omega)])
                have hq2 : ¬ ym < q := by omega
                go_wp2_with fail
                refine CS.mono ?_
                rintro r w2 ⟨rfl, hb2⟩
                clear CS
                have HO := Lib.hid (own_below HO.out hb2)
                have hb := Lib.hid (below_more hb.out hb2 (Nat.le_refl _))
                clear hb2
                go_wp2
                go_roundw
                case rel => exact ⟨s', yb, ym, yc, by have := HS1.out; omega, by have := HS1.out; go_num, rfl, rfl, HB1, HO, hb⟩
                case measure => have := HS1.out; simp [intOf]; omega
            · have HB1 : Hid (bS zs n z (oS zs n t) (P - 1 - s') = ⟨yb, ym, yc⟩) := Lib.hid (by rw [HS'.out, stS, HLM.out, if_neg (fun h => hm1 h.1)])
              have q2 : ((lm : Int) != z) = true := by rw [bne_iff_ne]; omega
              go_wp2
              go_roundw
              case rel => exact ⟨s', yb, ym, yc, by have := HS1.out; omega, by have := HS1.out; go_num, rfl, rfl, HB1, HO, hb⟩
              case measure => have := HS1.out; simp [intOf]; omega
          · obtain rfl : s = 0 := by omega
            have HB1 : Hid (oS zs n (t + 1) = ⟨yb, ym, yc⟩) := Lib.hid (by rw [oS, HP.out, ← HZ.out]; exact HY.out)
            go_wp2
            go_roundw
            case rel => exact ⟨t + 1, z + 2, yb, ym, yc, by omega, Lib.hid (by have := HZ.out; omega), by go_num, rfl, rfl, HB1, HO, hb⟩
            case measure => simp [intOf]; omega
      · have HT : Hid (t = (n + 1) / 2) := Lib.hid (by have := HZ.out; omega)
        have HB := Lib.hid (HT.out ▸ HX.out)
        go_wp2
        go_ret3
        have e1 : xb = bI zs n P := by rw [← HJ.out.1, HB.out]
        have e2 : xc = chL (mj (sh zs (bI zs n P))) (bI zs n P).length := by rw [← HJ.out.2.1, HB.out]
        exact ⟨_, by rw [HL.out, e2]; rfl, by rw [HL.out, ← e1]; show World.ownsRow _ _ _ _ _ (nv xb).length _; rw [nv_len]; exact HO.out, hb.out⟩
end Go.Proofs.Ythmpcpcmmahheaa
