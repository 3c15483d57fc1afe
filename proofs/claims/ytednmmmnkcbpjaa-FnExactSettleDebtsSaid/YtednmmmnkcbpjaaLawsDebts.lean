/- The law FnExactSettleDebts. -/
import Derived.Test.YtednmmmnkcbpjaaDebtR
import Derived.Test.YtednmmmnkcbpjaaHeldE
import Derived.Test.YtednmmmnkcbpjaaOpenI
set_option linter.unusedVariables false
set_option linter.unusedSimpArgs false
namespace Go.Proofs.Ytednmmmnkcbpjaa
open Go.ChangeShapes Go.WideShapes Go.ChangeAt Go.RowKit

section
variable {H : Type} {enc : TypeId × Value → H} {w : World} {r : Reach} {b0 base : Nat} {spare : Nat → Bool} {held : Bool} {v : Value} {d : DataW H} {p : List MemPlace}
theorem flat_sv (ds : List ByteArray) : ds.flatMap (fun z => [Value.string z]) = sv ds := by
  induction ds with
  | nil => rfl
  | cons a ds ih => rw [List.flatMap_cons, ih]; rfl
def IsStrS (w : World) (v : Value) : Prop := ∃ (A : Option Addr) (n c : Nat) (ss : List ByteArray), v = .slice A n c ∧ n ≤ maxLen ∧ Rd w w.heap.size 1 A n (sv ss) ∧ ∀ s ∈ ss, s.size ≤ maxLen
set_option maxRecDepth 100000 in
theorem open_IsStrS (hv : Value.okWide Try.prog w r b0 35 v) (h : DataW.Trod enc Try.prog w base spare held 35 v d p) : IsStrS w v := by
  obtain ⟨A, n, c, rfl⟩ := okWide_slice Try.underlying35 hv
  obtain ⟨fuel, hf⟩ := h
  obtain ⟨A', n', c', ds, hcs, hl, hm, hr, hg, _⟩ := open_rows (k := 1) (f := fun z : ByteArray => [Value.string z]) (good := fun z : ByteArray => z.size ≤ maxLen) (by omega) (fun _ => rfl) Try.underlying35 (by kernel_rfl) hf (by
    intro fuel cs y hl hf
    obtain ⟨s, e, _, w⟩ := DataW.trod_string Try.underlying9 hf
    exact ⟨s, e, w⟩)
  rw [flat_sv] at hr
  simp [Value.cells] at hcs
  obtain ⟨rfl, rfl, rfl⟩ := hcs
  exact ⟨_, _, _, ds, rfl, hm, hr, hg⟩
end
theorem ownE_tch {w w' : World} {L n k lo hi : Nat} {t : TypeId} {v : Value} {xs : List Value} (h : w.ownsRow L t k v n xs) (ht : Tch lo hi w w') (hL : hi ≤ L) : w'.ownsRow L t k v n xs := by
  refine ⟨h.1, ?_⟩
  rcases h.2 with hn | ⟨g, cap, cur, rfl, hb, hg, rest⟩
  · exact .inl hn
  · exact .inr ⟨g, cap, cur, rfl, hb, (ht.block g (Array.getElem?_eq_some_iff.1 hg).1 (.inr (by omega))).trans hg, rest⟩
theorem settle_one {ss : List ByteArray} {zs : List Int} {es es' : List EntryD} (h1 : debtC ss zs = 0 → Settles ss zs es) (h2 : ¬ debtC ss zs = 0 → es = []) (h1' : debtC ss zs = 0 → Settles ss zs es') (h2' : ¬ debtC ss zs = 0 → es' = []) : es' = es := by
  by_cases h : debtC ss zs = 0
  · exact (h1' h).one (h1 h)
  · rw [h2 h, h2' h]
set_option maxRecDepth 100000 in
set_option maxHeartbeats 8000000 in
theorem FnExactSettleDebts_walk (v0 v1 : Value) (w : World) (i0 : IsStrS w v0) (i1 : IsI64S w v1) :
    Calls Try.prog 4 #[v0, v1] w fun e w' => e = .returned (.bool true) ∧ Below w.heap.size w w' := by
  obtain ⟨A, n, c, ss, rfl, hm, hR, hz⟩ := i0
  obtain ⟨A', m, c', zs, rfl, hm', hR', hz'⟩ := i1
  have H := Lib.hid hR
  have H' := Lib.hid hR'
  have HN := Lib.hid hR.lenS
  have HM := Lib.hid hR'.len
  have HZ := Lib.hid hz
  clear hR hR' hz hz'
  have m2 := hm
  have m3 := hm'
  unfold maxLen at m2 m3
  rcases Nat.lt_or_ge 1048576 m with mm | mm
  · go_enter Try.func4, Try.ntmps4
    go_wp2
    go_ret
    exact ⟨rfl, Below.refl _ _⟩
  go_enter Try.func4, Try.ntmps4
  go_wp2_with fail
  refine (szStringS_any A c n ss _ w H.out HZ.out (by omega) (by omega) hm).mono ?_
  rintro r w1 ⟨q, hq, rfl, hb1⟩
  have b1 := Lib.hid hb1
  have s1 := hb1.size
  clear hb1
  rcases hq with rfl | ⟨q0, q1⟩
  · go_wp2
    go_ret
    exact ⟨rfl, b1.out⟩
  have nn : n ≤ 1048576 := by omega
  go_wp2_with fail
  refine (toStringS_any A c n ss _ (H.out.next b1.out) nn).mono ?_
  rintro r w2 ⟨rfl, k2, hb2⟩
  have b2 := Lib.hid (below_more b1.out hb2 (Nat.le_refl _))
  have s2 := hb2.size
  have X2 := Lib.hid (Rd.blk (n := n) (k := 1) (B := w2.heap.size) k2 (by rw [sv_len, HN.out]; omega) k2.lt)
  clear hb2 k2 b1
  go_wp2_with fail
  refine (toInt64S_any A' c' m zs _ (H'.out.next b2.out) mm).mono ?_
  rintro r w3 ⟨rfl, k3, hb3⟩
  have b3 := Lib.hid (below_more b2.out hb3 (Nat.le_refl _))
  have s3 := hb3.size
  have X3 := Lib.hid (X2.out.next hb3)
  have Y3 := Lib.hid (Rd.blk (n := m) (k := 1) (B := w3.heap.size) k3 (by rw [iv_len, HM.out]; omega) k3.lt)
  clear hb3 k3 b2 X2
  go_wp2_with fail
  refine (SettleDebts_s _ _ _ _ _ n m ss zs _ X3.out Y3.out HZ.out nn mm).mono ?_
  rintro r w4 ⟨v4, es, rfl, S1, S2, len4, o4, hb4⟩
  have b4 := Lib.hid (below_more b3.out hb4 (Nat.le_refl _))
  have s4 := hb4.size
  obtain ⟨A4, c4, rfl⟩ := ownE_val o4
  obtain ⟨N, hN⟩ : ∃ N, N = es.length := ⟨_, rfl⟩
  rw [← hN] at o4 len4 ⊢
  have HL := Lib.hid hN.symm
  have W4 := Lib.hid (RdIn.own o4)
  have T1 := Lib.hid S1
  have T2 := Lib.hid S2
  clear hb4 o4 X3 Y3 b3 hN S1 S2
  go_wp2_with fail
  refine (toStringS_any A c n ss _ (H.out.next b4.out) nn).mono ?_
  rintro r w5 ⟨rfl, k5, hb5⟩
  have b5 := Lib.hid (below_more b4.out hb5 (Nat.le_refl _))
  have s5 := hb5.size
  have X5 := Lib.hid (own_of_blk (L := w4.heap.size) (n := n) k5 (by rw [sv_len, HN.out]) (Nat.le_refl _) hm)
  have W5 := Lib.hid (W4.out.below hb5 (Nat.le_refl _))
  clear hb5 k5 b4 W4
  go_wp2_with fail
  refine (toInt64S_any A' c' m zs _ (H'.out.next b5.out) mm).mono ?_
  rintro r w6 ⟨rfl, k6, hb6⟩
  have b6 := Lib.hid (below_more b5.out hb6 (Nat.le_refl _))
  have s6 := hb6.size
  have X6 := Lib.hid (own_grow X5.out hb6)
  have XB : Hid (∀ k, Value.ownBlock (.slice (some ⟨w4.heap.size, 0, none⟩) n n) = some k → w4.heap.size ≤ k ∧ k < w5.heap.size) := Lib.hid (X5.out.lt)
  have Y6 := Lib.hid (own_of_blk (L := w5.heap.size) (n := m) k6 (by rw [iv_len, HM.out]) (Nat.le_refl _) hm')
  have W6 := Lib.hid (W5.out.below hb6 (by omega))
  clear hb6 k6 b5 W5 X5
  go_wp2_with fail
  refine (SettleDebts_i _ _ _ _ _ n m ss zs _ (Rd.own X6.out) (Rd.own Y6.out) HZ.out nn mm).mono ?_
  rintro r w7 ⟨v7, es7, rfl, S1, S2, len7, o7, hb7⟩
  obtain rfl : es7 = es := settle_one T1.out T2.out S1 S2
  rw [HL.out] at o7 len7
  have b7 := Lib.hid (below_more b6.out hb7 (Nat.le_refl _))
  have s7 := hb7.size
  obtain ⟨A7, c7, rfl⟩ := ownE_val o7
  have G7 := Lib.hid o7
  have X7 := Lib.hid (own_grow X6.out hb7)
  have YB : Hid (∀ k, Value.ownBlock (.slice (some ⟨w5.heap.size, 0, none⟩) m m) = some k → w5.heap.size ≤ k ∧ k < w6.heap.size) := Lib.hid (Y6.out.lt)
  have Y7 := Lib.hid (own_grow Y6.out hb7)
  have W7 := Lib.hid (W6.out.below hb7 (by omega))
  clear hb7 o7 b6 W6 X6 Y6 S1 S2 len7
  obtain ⟨d, hd⟩ : ∃ d, d = debtC ss zs := ⟨_, rfl⟩
  rw [← hd]
  have HD := Lib.hid hd
  clear hd
  go_wp2_with fail
  refine (eqEntryS_refl _ _ _ _ N es7 _ HL.out (Rd.own G7.out) (W7.out.1.more (by omega)) (by omega)).mono ?_
  rintro r w8 ⟨rfl, hb8⟩
  have b8 := Lib.hid (below_more b7.out hb8 (Nat.le_refl _))
  have s8 := hb8.size
  have W8 := Lib.hid (W7.out.below hb8 (by omega))
  have X8 := Lib.hid (own_grow X7.out hb8)
  have Y8 := Lib.hid (own_grow Y7.out hb8)
  have G8 := Lib.hid (own_grow G7.out hb8)
  clear hb8 b7 W7 X7 Y7 G7
  go_wp2_with fail
  refine (toStringS_any A c n ss _ (H.out.next b8.out) nn).mono ?_
  rintro r w9 ⟨rfl, k9, hb9⟩
  have b9 := Lib.hid (below_more b8.out hb9 (Nat.le_refl _))
  have s9 := hb9.size
  have W9 := Lib.hid (W8.out.below hb9 (by omega))
  have X9 := Lib.hid (own_grow X8.out hb9)
  have Y9 := Lib.hid (own_grow Y8.out hb9)
  have G9 := Lib.hid (own_grow G8.out hb9)
  have C9 := Lib.hid (Rd.blk (n := n) (k := 1) (B := w9.heap.size) k9 (by rw [sv_len, HN.out]; omega) k9.lt)
  clear hb9 k9 b8 W8 X8 Y8 G8
  go_wp2_with fail
  refine (eqStringS_refl _ _ _ _ n ss _ (Rd.own X9.out) C9.out (by omega)).mono ?_
  rintro r w10 ⟨rfl, hb10⟩
  have b10 := Lib.hid (below_more b9.out hb10 (Nat.le_refl _))
  have s10 := hb10.size
  have W10 := Lib.hid (W9.out.below hb10 (by omega))
  have X10 := Lib.hid (own_grow X9.out hb10)
  have Y10 := Lib.hid (own_grow Y9.out hb10)
  have G10 := Lib.hid (own_grow G9.out hb10)
  clear hb10 b9 W9 X9 Y9 G9 C9
  go_wp2_with fail
  refine (toInt64S_any A' c' m zs _ (H'.out.next b10.out) mm).mono ?_
  rintro r w11 ⟨rfl, k11, hb11⟩
  have b11 := Lib.hid (below_more b10.out hb11 (Nat.le_refl _))
  have s11 := hb11.size
  have W11 := Lib.hid (W10.out.below hb11 (by omega))
  have X11 := Lib.hid (own_grow X10.out hb11)
  have Y11 := Lib.hid (own_grow Y10.out hb11)
  have G11 := Lib.hid (own_grow G10.out hb11)
  have C11 := Lib.hid (Rd.blk (n := m) (k := 1) (B := w11.heap.size) k11 (by rw [iv_len, HM.out]; omega) k11.lt)
  clear hb11 k11 b10 W10 X10 Y10 G10
  go_wp2_with fail
  refine (eqInt64S_refl _ _ _ _ m zs _ (Rd.own Y11.out) C11.out (by omega)).mono ?_
  rintro r w12 ⟨rfl, hb12⟩
  have b12 := Lib.hid (below_more b11.out hb12 (Nat.le_refl _))
  have s12 := hb12.size
  have W12 := Lib.hid (W11.out.below hb12 (by omega))
  have X12 := Lib.hid (own_grow X11.out hb12)
  have Y12 := Lib.hid (own_grow Y11.out hb12)
  have G12 := Lib.hid (own_grow G11.out hb12)
  clear hb12 b11 W11 X11 Y11 G11 C11
  go_wp2_with fail
  refine (markStringS_own _ _ n _ _ 1 _ X12.out (by omega) (by omega) nn).mono ?_
  rintro r w13 ⟨rfl, g13⟩
  have t13 : Tch w4.heap.size w5.heap.size w12 w13 := Tch.of_grown g13 XB.out
  have b13 := Lib.hid (t13.below b12.out (by omega) (by omega))
  have s13 := t13.size
  have W13 := Lib.hid (W12.out.tch t13 (by omega) (.inl (Nat.le_refl _)))
  have Y13 := Lib.hid (ownE_tch Y12.out t13 (Nat.le_refl _))
  have G13 := Lib.hid (ownE_tch G12.out t13 (by omega))
  clear t13 g13 b12 W12 X12 Y12 G12 XB
  have kk : ((1 + n : Nat) : Int) = 1 + (n : Int) := by omega
  rw [kk]
  clear kk
  go_wp2_with fail
  refine (markInt64S_own _ _ m _ _ _ _ Y13.out (by omega) (by omega)).mono ?_
  rintro r w14 ⟨rfl, _, g14⟩
  have t14 : Tch w5.heap.size w6.heap.size w13 w14 := Tch.of_grown g14 YB.out
  have b14 := Lib.hid (t14.below b13.out (by omega) (by omega))
  have s14 := t14.size
  have W14 := Lib.hid (W13.out.tch t14 (by omega) (.inl (by omega)))
  have G14 := Lib.hid (ownE_tch G13.out t14 (Nat.le_refl _))
  clear t14 g14 b13 W13 Y13 G13 YB
  go_wp2_with fail
  refine (eqEntryS_refl _ _ _ _ N es7 _ HL.out (Rd.own G14.out) (W14.out.1.more (by omega)) (by omega)).mono ?_
  rintro r w15 ⟨rfl, hb15⟩
  have b15 := Lib.hid (below_more b14.out hb15 (Nat.le_refl _))
  have s15 := hb15.size
  have W15 := Lib.hid (W14.out.below hb15 (by omega))
  have G15 := Lib.hid (own_grow G14.out hb15)
  clear hb15 b14 W14 G14
  go_wp2_with fail
  refine (markEntryS_own _ _ N _ _ 1 _ G15.out (by omega) (by omega) (by omega)).mono ?_
  rintro r w16 ⟨rfl, o16, g16⟩
  have k4 : (0 : Int) ≤ ((1 + 4 * N : Nat) : Int) := by omega
  obtain ⟨K, hK⟩ : ∃ K : Int, K = ((1 + 4 * N : Nat) : Int) := ⟨_, rfl⟩
  rw [← hK] at k4 ⊢
  have HK := Lib.hid hK
  clear hK
  have t16 : Tch w6.heap.size w15.heap.size w15 w16 := Tch.of_grown g16 fun k hk => G15.out.lt k hk
  have b16 := Lib.hid (t16.below b15.out (by omega) (by omega))
  have s16 := t16.size
  have W16 := Lib.hid (W15.out.tch t16 (by omega) (.inl (by omega)))
  have G16 := Lib.hid o16
  clear t16 o16 g16 b15 W15 G15
  go_wp2_with fail
  refine (heldEntryS_any _ _ N 1 _ (Rd.own G16.out) (by omega) (by omega) (by omega)).mono ?_
  rintro r w17 ⟨rfl, hb17⟩
  rw [← HK.out]
  have b17 := Lib.hid (below_more b16.out hb17 (Nat.le_refl _))
  have s17 := hb17.size
  have W17 := Lib.hid (W16.out.below hb17 (by omega))
  have G17 := Lib.hid (own_grow G16.out hb17)
  clear hb17 b16 W16 G16
  go_wp2_with fail
  refine (toStringS_any A c n ss _ (H.out.next b17.out) nn).mono ?_
  rintro r w18 ⟨rfl, k18, hb18⟩
  have b18 := Lib.hid (below_more b17.out hb18 (Nat.le_refl _))
  have s18 := hb18.size
  have W18 := Lib.hid (W17.out.below hb18 (by omega))
  have G18 := Lib.hid (own_grow G17.out hb18)
  have X18 := Lib.hid (Rd.blk (n := n) (k := 1) (B := w18.heap.size) k18 (by rw [sv_len, HN.out]; omega) k18.lt)
  clear hb18 k18 b17 W17 G17
  go_wp2_with fail
  refine (toInt64S_any A' c' m zs _ (H'.out.next b18.out) mm).mono ?_
  rintro r w19 ⟨rfl, k19, hb19⟩
  have b19 := Lib.hid (below_more b18.out hb19 (Nat.le_refl _))
  have s19 := hb19.size
  have W19 := Lib.hid (W18.out.below hb19 (by omega))
  have G19 := Lib.hid (own_grow G18.out hb19)
  have X19 := Lib.hid (X18.out.next hb19)
  have Y19 := Lib.hid (Rd.blk (n := m) (k := 1) (B := w19.heap.size) k19 (by rw [iv_len, HM.out]; omega) k19.lt)
  clear hb19 k19 b18 W18 G18 X18
  go_wp2_with fail
  refine (SettleDebts_i _ _ _ _ _ n m ss zs _ X19.out Y19.out HZ.out nn mm).mono ?_
  rintro r w20 ⟨v20, es20, rfl, S1, S2, len20, o20, hb20⟩
  obtain rfl : es20 = es7 := settle_one T1.out T2.out S1 S2
  rw [HL.out] at o20 len20
  rw [← HD.out]
  have b20 := Lib.hid (below_more b19.out hb20 (Nat.le_refl _))
  have s20 := hb20.size
  obtain ⟨A20, c20, rfl⟩ := ownE_val o20
  have N20 := Lib.hid o20
  have W20 := Lib.hid (W19.out.below hb20 (by omega))
  have G20 := Lib.hid (own_grow G19.out hb20)
  clear hb20 o20 b19 W19 G19 X19 Y19 S1 S2 len20
  go_wp2_with fail
  refine (eqEntryS_refl _ _ _ _ N es20 _ HL.out (Rd.own N20.out) (W20.out.1.more (by omega)) (by omega)).mono ?_
  rintro r w21 ⟨rfl, hb21⟩
  have b21 := Lib.hid (below_more b20.out hb21 (Nat.le_refl _))
  have G21 := Lib.hid (own_grow G20.out hb21)
  clear hb21 b20 W20 G20 N20
  go_wp2_with fail
  refine (heldEntryS_any _ _ N 1 _ (Rd.own G21.out) (by omega) (by omega) (by omega)).mono ?_
  rintro r w22 ⟨rfl, hb22⟩
  rw [← HK.out]
  go_wp2
  go_ret
  exact ⟨rfl, below_more b21.out hb22 (Nat.le_refl _)⟩
end Go.Proofs.Ytednmmmnkcbpjaa
