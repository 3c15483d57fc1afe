/- The best jury: BestJury of the program and of the reference. -/
import Derived.Test.YtednmmmnkcbpjaaJury
set_option linter.unusedVariables false
namespace Go.Proofs.Ytednmmmnkcbpjaa
open Go.RowKit

theorem bI_len {zs : List Int} {n : Nat} (hn : n ≤ 5) : ∀ k, (bI zs n k).length ≤ 5
  | 0 => by simp [bI]
  | k + 1 => by
    rw [bI, stI]
    split
    · exact Nat.le_trans (mems_len _ _) hn
    · exact bI_len hn k
theorem jury_take {W w : World} {g : Nat} {x0 y0 : Value} {A3 A4 : Option Addr} {d3 d4 lm : Nat} {xs ys : List Value} (K : Blk W g 56 #[x0, y0]) (q1 : W.ownsRow (g + 1) 2 1 (.slice A3 lm d3) lm xs) (q2 : W.ownsRow (g + 1) 2 1 (.slice A4 lm d4) lm ys) (qs : ∀ k, (Value.slice A3 lm d3).ownBlock = some k → (Value.slice A4 lm d4).ownBlock ≠ some k) (hb : Below g w W) :
    Blk ((W.setCell ⟨g, 0, none⟩ (.slice A3 lm d3)).setCell ⟨g, 1, none⟩ (.slice A4 lm d4)) g 56 #[.slice A3 lm d3, .slice A4 lm d4] ∧ Two ((W.setCell ⟨g, 0, none⟩ (.slice A3 lm d3)).setCell ⟨g, 1, none⟩ (.slice A4 lm d4)) (g + 1) (.slice A3 lm d3) (.slice A4 lm d4) lm xs ys ∧ Below g w ((W.setCell ⟨g, 0, none⟩ (.slice A3 lm d3)).setCell ⟨g, 1, none⟩ (.slice A4 lm d4)) :=
  ⟨(K.set_ 0 _).set_ 1 _, ⟨ownsRow_setCell_below (ownsRow_setCell_below q1 (a := ⟨g, 0, none⟩) (by simp) _) (a := ⟨g, 1, none⟩) (by simp) _, ownsRow_setCell_below (ownsRow_setCell_below q2 (a := ⟨g, 0, none⟩) (by simp) _) (a := ⟨g, 1, none⟩) (by simp) _, qs⟩, (hb.setCell (p := ⟨g, 0, none⟩) (Nat.le_refl _) _).setCell (p := ⟨g, 1, none⟩) (Nat.le_refl _) _⟩
set_option maxRecDepth 100000 in
set_option maxHeartbeats 4000000 in
theorem BestJury_i (A : Option Addr) (c n : Nat) (zs : List Int) (w : World) (h : Rd w w.heap.size 1 A n (iv zs)) (hm : n ≤ 1048576) (hz : ∀ z ∈ zs, i64R z) :
    Calls Try.prog 10 #[.slice A n c] w (RetJ zs w) := by
  have HN := Lib.hid h.len
  have H := Lib.hid h
  clear h hz
  cases hp : expB zs
  · have HL : Hid (BestJury_L zs = ([], 0, 1)) := Lib.hid (by simp [BestJury_L, hp])
    go_enter Try.func10, Try.ntmps10
    go_wp2_with ((go_at_call 11; refine (ValidExperts_any _ _ _ _ zs _ H.out hm).mono ?_; rintro e w' ⟨rfl, rfl⟩))
    go_ret3
    exact ⟨.slice none 0 0, by rw [HL.out]; rfl, by rw [HL.out]; exact World.ownsRow_nil _ _ _ _, Below.refl _ _⟩
  · have E := expB_t hp
    have HS : Hid (shOk zs) := Lib.hid E.2.2
    rw [HN.out] at E
    have e1 := E.1
    have e5 := E.2.1
    have HJ := Lib.hid (jury_same HS.out e1 e5)
    have HL : Hid (BestJury_L zs = (nv (bI zs n (2 ^ n)), chL (mj (sh zs (bI zs n (2 ^ n)))) (bI zs n (2 ^ n)).length, 0)) := Lib.hid (by simp [BestJury_L, hp, HN.out])
    obtain ⟨P, hP, q1, P1, P32⟩ := pow_is e5
    rw [hP] at HJ HL
    clear E hP
    have K0 := Lib.hid (Blk.new w 56 #[.slice none 0 0, .slice none 0 0])
    have B0 := Lib.hid ((Below.refl w.heap.size w).alloc (Nat.le_refl _) (.cells #[.slice none 0 0, .slice none 0 0] 56))
    go_enter Try.func10, Try.ntmps10
    go_wp2_with ((go_at_call 11; refine (ValidExperts_any _ _ _ _ zs _ H.out hm).mono ?_; rintro e w' ⟨rfl, rfl⟩))
    clear hp
    generalize w.alloc (.cells #[.slice none 0 0, .slice none 0 0] 56) = w0 at K0 B0 ⊢
    go_loopw [6] (fun i wr => ∃ (k : Nat) (v1 v2 : Value), 1 ≤ k ∧ k ≤ P ∧ i = .int .i64 k ∧ Hid (Blk wr w.heap.size 56 #[v1, v2]) ∧ Hid ((bI zs n k).length ≤ 5) ∧ Hid (Two wr (w.heap.size + 1) v1 v2 (bI zs n k).length (iv (nv (bI zs n k))) (iv (sh zs (bI zs n k)))) ∧ Hid (Below w.heap.size w wr)) (fun i _ => P - (intOf i).toNat)
    case atStart => exact ⟨1, _, _, Nat.le_refl _, P1, rfl, K0, Lib.hid (bI_len e5 1), Lib.hid (by
      have : bI zs n 1 = [] := by
        rw [bI, stI, if_neg]; · rfl
        rintro ⟨h, _⟩
        have : mems (bitI 0) n = [] := by simp [mems, bitI]
        rw [this] at h; simp at h
      rw [this]
      exact ⟨World.ownsRow_nil _ _ _ _, World.ownsRow_nil _ _ _ _, fun k hk => by simp [Value.ownBlock] at hk⟩), B0⟩
    case round =>
      obtain ⟨k, v1, v2, k1, kP, rfl, K, LB, T, hb⟩ := hrel
      have hsz := hb.out.size
      have hgl := K.out.lt
      have HJ1 := Lib.hid (fun w1 (hw : Below w.heap.size w w1) (k32 : k < 32) => juryOf_any A c n k zs w1 (H.out.next hw) e5 k32)
      have ML := mems_len (bitI k) n
      have HST : Hid (bI zs n (k + 1) = stI zs (bI zs n k) (mems (bitI k) n)) := Lib.hid rfl
      obtain ⟨O1, O2, S0⟩ := T.out
      obtain ⟨A1, d1, rfl⟩ := own_val O1
      obtain ⟨A2, d2, rfl⟩ := own_val O2
      have lb5 := LB.out
      generalize hb2 : bI zs n k = b at *
      generalize hM : mems (bitI k) n = M at *
      by_cases hlt : k < P
      · have CJ := HJ1.out wr hb.out (by omega)
        generalize hlb : b.length = lb at *
        generalize hlm : M.length = lm at *
        have HLB := Lib.hid hlb
        have HLM := Lib.hid hlm
        have HS0 := Lib.hid S0
        have HO1 := Lib.hid O1
        have HO2 := Lib.hid O2
        have HB2 := Lib.hid hb2
        have lm5 : lm ≤ 5 := by omega
        clear hlb hlm S0 O1 O2 T LB HJ1 hb2 hM
        go_wp2_with fail
        refine CJ.mono ?_
        rintro r w1 ⟨j1, j2, rfl, TJ, hb1⟩
        clear CJ
        obtain ⟨P1, P2, PS⟩ := TJ
        obtain ⟨A3, d3, rfl⟩ := own_val P1
        obtain ⟨A4, d4, rfl⟩ := own_val P2
        have s1 := hb1.size
        have K2 := Lib.hid ((K.out.below hb1 hgl).alloc (.cells #[.slice A3 lm d3, .slice A4 lm d4] 56))
        have KJ := Lib.hid (Blk.new w1 56 #[.slice A3 lm d3, .slice A4 lm d4])
        have O1 := Lib.hid ((own_below HO1.out hb1).alloc (.cells #[.slice A3 lm d3, .slice A4 lm d4] 56))
        have O2 := Lib.hid ((own_below HO2.out hb1).alloc (.cells #[.slice A3 lm d3, .slice A4 lm d4] 56))
        have Q1 := Lib.hid ((P1.mono (base' := w.heap.size + 1) (by omega)).alloc (.cells #[.slice A3 lm d3, .slice A4 lm d4] 56))
        have Q2 := Lib.hid ((P2.mono (base' := w.heap.size + 1) (by omega)).alloc (.cells #[.slice A3 lm d3, .slice A4 lm d4] 56))
        have QS := Lib.hid PS
        have B2 := Lib.hid ((below_more hb.out hb1 (Nat.le_refl _)).alloc (by omega) (.cells #[.slice A3 lm d3, .slice A4 lm d4] 56))
        clear K HO1 HO2 P1 P2 PS hb hb1
        have c1 := K2.out.cell
        have c2 := KJ.out.cell
        have f1 := K2.out.frozen
        by_cases hodd : lm % 2 = 1
        · have r1 : (lm : Int) % 2 = 1 := by omega
          by_cases h0 : lb = 0
          · have HX : Hid (bI zs n (k + 1) = M) := Lib.hid (by rw [HST.out]; exact stI_t (by rw [HLM.out]; exact hodd) (.inl (List.eq_nil_of_length_eq_zero (HLB.out.trans h0))))
            have HT := Lib.hid (jury_take K2.out Q1.out Q2.out QS.out B2.out)
            clear KJ Q1 Q2 QS B2 O1 O2
            subst h0
            go_wp2
            go_roundw
            case rel => exact ⟨k + 1, _, _, by omega, by omega, by go_num, Lib.hid HT.out.1, Lib.hid (by rw [HX.out, HLM.out]; exact lm5), Lib.hid (by rw [HX.out, HLM.out]; exact HT.out.2.1), Lib.hid HT.out.2.2⟩
            case measure => simp [intOf]; omega
          · have CB := better_any A3 A4 A1 A2 d3 d4 d1 d2 lm lb zs M b _ HLM.out HLB.out (Rd.own Q1.out) (Rd.own Q2.out) (Rd.own O1.out) (Rd.own O2.out) (by omega) lm5 (by omega) lb5 HS.out
            cases hbet : bet zs M b
            · have HX : Hid (bI zs n (k + 1) = b) := Lib.hid (by rw [HST.out]; exact stI_f (.inr ⟨fun e => h0 (by rw [← HLB.out, e]; rfl), hbet⟩))
              rw [hbet] at CB
              go_wp2_with fail
              refine CB.mono ?_
              rintro r w2 ⟨rfl, hb2⟩
              clear CB c1 c2 f1
              have K3 := Lib.hid (K2.out.below hb2 K2.out.lt)
              have O1 := Lib.hid (own_below O1.out hb2)
              have O2 := Lib.hid (own_below O2.out hb2)
              have B3 := Lib.hid (below_more B2.out hb2 (Nat.le_refl _))
              clear K2 B2 hb2 KJ Q1 Q2 QS
              go_wp2
              go_roundw
              case rel => exact ⟨k + 1, _, _, by omega, by omega, by go_num, K3, Lib.hid (by rw [HX.out, HLB.out]; exact lb5), Lib.hid (by rw [HX.out, HLB.out]; exact ⟨O1.out, O2.out, HS0.out⟩), B3⟩
              case measure => simp [intOf]; omega
            · have HX : Hid (bI zs n (k + 1) = M) := Lib.hid (by rw [HST.out]; exact stI_t (by rw [HLM.out]; exact hodd) (.inr hbet))
              rw [hbet] at CB
              go_wp2_with fail
              refine CB.mono ?_
              rintro r w2 ⟨rfl, hb2⟩
              clear CB c1 c2 f1
              have K3 := Lib.hid (K2.out.below hb2 K2.out.lt)
              have KJ3 := Lib.hid (KJ.out.below hb2 KJ.out.lt)
              have HT := Lib.hid (jury_take K3.out (own_below Q1.out hb2) (own_below Q2.out hb2) QS.out (below_more B2.out hb2 (Nat.le_refl _)))
              clear K2 B2 hb2 KJ Q1 Q2 QS O1 O2 HS0
              have c1 := K3.out.cell
              have c2 := KJ3.out.cell
              have f1 := K3.out.frozen
              go_wp2
              go_roundw
              case rel => exact ⟨k + 1, _, _, by omega, by omega, by go_num, Lib.hid HT.out.1, Lib.hid (by rw [HX.out, HLM.out]; exact lm5), Lib.hid (by rw [HX.out, HLM.out]; exact HT.out.2.1), Lib.hid HT.out.2.2⟩
              case measure => simp [intOf]; omega
        · have HX : Hid (bI zs n (k + 1) = b) := Lib.hid (by rw [HST.out]; exact stI_f (.inl (by rw [HLM.out]; exact hodd)))
          have r1 : (lm : Int) % 2 = 0 := by omega
          clear KJ Q1 Q2 QS
          go_wp2
          go_roundw
          case rel => exact ⟨k + 1, _, _, by omega, by omega, by go_num, K2, Lib.hid (by rw [HX.out, HLB.out]; exact lb5), Lib.hid (by rw [HX.out, HLB.out]; exact ⟨O1.out, O2.out, HS0.out⟩), B2⟩
          case measure => simp [intOf]; omega
      · obtain rfl : k = P := by omega
        rw [hb2] at HJ HL
        have hbl : b.length % 2 = 1 := by
          have := HJ.out.2.2.1
          simp [lstI] at this
          exact this.2
        have HO1 := Lib.hid O1
        have R2 := Lib.hid (Rd.own O2)
        have HSB := Lib.hid (sh_ok HS.out b)
        have mb := mj_thou (sh_ok HS.out b)
        rw [sh_len] at mb
        have HY : Hid (∀ (k : Nat), k < b.length → 0 ≤ (sh zs b).getD k 0 ∧ (sh zs b).getD k 0 ≤ 1000) := Lib.hid (by have := HSB.out; unfold shOk at this; rw [sh_len] at this; exact this)
        generalize hlb : b.length = lb at *
        have mt := thou_le lb5
        have mjB : 0 ≤ mj (sh zs b) ∧ mj (sh zs b) ≤ 6000000000000000 := by omega
        clear O1 O2 T hM HST HJ1 mb mt HJ hb2
        have c1 := K.out.cell
        go_wp2_with fail
        have C0 : ∀ (u : Bel wr.heap.size wr) (i : Nat), u.val.cell? ⟨w.heap.size, i, none⟩ = (#[.slice A1 lb d1, .slice A2 lb d2] : Array Value)[i]? := bel_cell K.out K.out.lt
        (refine wp_region_bel wr.heap.size wr (Below.refl _ _) (by kernel_rfl) (by kernel_rfl) ?_; (repeat (go_big_quiet_step ((first | (go_at_call 29; exact bel_of (Nat.le_refl _) (majority_any _ _ lb (sh zs b) _ (R2.out.next (Bel.below _)) (by omega) lb5 HY.out)) | (go_at_call 31; exact bel_same (chance_any _ lb _ (by omega) lb5 mjB.1 mjB.2)))))); refine wpQuiet_nil ?_; rintro wx ⟨⟨_, hbx⟩, rfl⟩)
        clear C0
        have P1 := Lib.hid (own_below HO1.out hbx)
        have b1 := Lib.hid (below_more hb.out hbx (by omega))
        clear hbx
        go_wp2
        go_ret3
        exact ⟨.slice A1 lb d1, by rw [HL.out]; rfl, by rw [HL.out]; show World.ownsRow _ _ _ _ _ (nv b).length _; rw [nv_len, hlb]; exact P1.out.mono (by omega), b1.out⟩
end Go.Proofs.Ytednmmmnkcbpjaa
