/- Set-ups of strings: strings and gauges that are drawn. -/
import Derived.Test.YtemkggecempmgaaSetUps
import Derived.Test.YtemkggecempmgaaSrc
import Derived.Test.YtemkggecempmgaaOwn2
set_option linter.unusedVariables false
namespace Go.Proofs.Ytemkggecempmgaa
open Go.RowKit

/-- a string that is drawn -/
def cordDr (x : CordD) : Prop := (1960 ≤ x.a0 ∧ x.a0 ≤ 6593) ∧ (320 ≤ x.a1 ∧ x.a1 ≤ 335) ∧ (300 ≤ x.a2 ∧ x.a2 ≤ 2890) ∧ (60000 ≤ x.a3 ∧ x.a3 ≤ 149000)
/-- append of one string to a row of the call's own -/
theorem appC {w : World} {ops : Array Oper} {rest : List Oper} {o : Oper} {a : Act} {Q : Exit → Act → World → Prop} (hgd : o.guard = none) (s x : Operand)
    (ho : o.op = .call { callee := .builtin .append, args := #[s, x], argTypes := #[24, 24] }) (L : Nat) (v : Value) (ds : List CordD) (y0 y1 y2 y3 : Int) (hs : a.eval s = v) (hown : w.ownsRow L 39 4 v ds.length (ds.flatMap cordF))
    (hx : a.eval x = .slice (some ⟨w.heap.size, 0, none⟩) 1 1) (hL : L ≤ w.heap.size) (hn : ds.length ≤ 1000)
    (h : ∀ v' w', w'.ownsRow L 39 4 v' (ds ++ [(⟨y0, y1, y2, y3⟩ : CordD)]).length ((ds ++ [(⟨y0, y1, y2, y3⟩ : CordD)]).flatMap cordF) → Below L w w' → w.grownBy w' v.ownBlock → wpList Try.prog ops Q rest (a.put o.dst v') w') :
    wpList Try.prog ops Q (o :: rest) a (w.alloc (.cells #[.int .i64 y0, .int .i64 y1, .int .i64 y2, .int .i64 y3] 39)) := by
  obtain ⟨i0, hi, hz0, hz1, hz2⟩ := info_parts infoCord
  refine wpList_append_own _ hgd s x 24 ho L 39 i0 (.agg #[.int .i64 0, .int .i64 0, .int .i64 0, .int .i64 0]) 4 32 Try.underlying24 hi hz0 hz1 hz2 rfl (by decide) v ds.length (ds.flatMap cordF) hs (hown.alloc _) ⟨w.heap.size, 0, none⟩ 1 1 [.int .i64 y0, .int .i64 y1, .int .i64 y2, .int .i64 y3] hx rfl ?_ ?_ ?_ ?_ ?_ ?_
  · intro j u hu
    have hb := (Blk.new w 39 #[.int .i64 y0, .int .i64 y1, .int .i64 y2, .int .i64 y3]).cell
    rw [show ((⟨w.heap.size, 0, none⟩ : Addr).add j) = ⟨w.heap.size, j, none⟩ by unfold Addr.add; split <;> simp_all]
    rw [hb j]
    simpa using hu
  · intro u hu
    simp at hu
    rcases hu with rfl | rfl | rfl | rfl <;> rfl
  · unfold maxLen; omega
  · omega
  · simp; omega
  · intro v' w' h1 h2 _
    refine h v' w' (by simpa [cordF] using h1) ?_ ((World.grownBy_alloc w _ _).trans h2)
    have b1 : Below L w (w.alloc (.cells #[.int .i64 y0, .int .i64 y1, .int .i64 y2, .int .i64 y3] 39)) := (Below.refl L w).alloc hL _
    exact b1.grown h2 (by simp; omega) fun k hk => (hown.lt k hk).1
theorem Blk.tch {w w' : World} {N lo hi : Nat} {t : TypeId} {cs : Array Value} (h : Blk w N t cs) (ht : Tch lo hi w w') (hs : N < lo ∨ hi ≤ N) : Blk w' N t cs := (ht.block N h.lt hs).trans h
theorem tch_below2 {lo hi : Nat} {a b c : World} (h : Tch lo hi a b) (k : Below b.heap.size b c) : Tch lo hi a c := h.trans (Tch.of_below k lo hi)
theorem tch_new {lo hi : Nat} {a w : World} (h : Tch lo hi a w) {p : Addr} (hp : a.heap.size ≤ p.block) (u : Value) : Tch lo hi a (w.setCell p u) :=
  ⟨h.os, h.tape, h.output, by simpa using h.size, fun k hk hs => (Below.heap_setCell _ _ _ _ (by omega)).trans (h.block k hk hs)⟩
theorem SrcS.far {w : World} {g M : Nat} (h : SrcS w g M) {p : Addr} (hp : g < p.block) (u : Value) : SrcS (w.setCell p u) g M :=
  h.below ((Below.refl (g + 1) w).setCell (p := p) hp u) (by omega)
set_option maxRecDepth 100000 in
set_option maxHeartbeats 4000000 in
theorem l09DrawOne_any (g M : Nat) (w : World) (h : SrcS w g M) (hM : M ≤ 1000000) :
    Calls Try.prog 79 #[.pointer (some ⟨g, 0, none⟩)] w fun e w' => ∃ x : CordD, e = .returned (cordV x.a0 x.a1 x.a2 x.a3) ∧ cordDr x ∧ SrcS w' g (M + 8) ∧ Tch g (g + 1) w w' := by
  have hg := h.lt
  have B0 := (Below.refl w.heap.size w).alloc (Nat.le_refl _) (.cells #[.int .i64 0, .int .i64 0, .int .i64 0, .int .i64 0] 39)
  have T0 := Lib.hid (Tch.of_below B0 g (g + 1))
  have S0 := Lib.hid (h.below B0 hg)
  have K0 := Lib.hid (Blk.new w 39 #[.int .i64 0, .int .i64 0, .int .i64 0, .int .i64 0])
  obtain ⟨r, hr⟩ : ∃ r, r = w.heap.size := ⟨_, rfl⟩
  rw [← hr] at K0
  have gr : g < r := by omega
  clear h B0
  go_enter Try.func79, Try.ntmps79
  go_upto_region 1 with fail
  rw [← hr]
  have HR := Lib.hid hr
  clear hr
  generalize w.alloc (.cells #[.int .i64 0, .int .i64 0, .int .i64 0, .int .i64 0] 39) = w0 at T0 S0 K0 ⊢
  have BA := (Below.refl w0.heap.size w0).alloc (Nat.le_refl _) (.cells #[.int .i64 1960, .int .i64 2937, .int .i64 4400, .int .i64 6593] 2)
  have hk0 := K0.out.lt
  have RA : RdIn (w0.alloc (.cells #[.int .i64 1960, .int .i64 2937, .int .i64 4400, .int .i64 6593] 2)) (g + 1) (w0.alloc (.cells #[.int .i64 1960, .int .i64 2937, .int .i64 4400, .int .i64 6593] 2)).heap.size 1 (some ⟨w0.heap.size, 0, none⟩) 4 (iv [1960, 2937, 4400, 6593]) :=
    RdIn.blk (xs := iv [1960, 2937, 4400, 6593]) (Blk.new w0 _ _) rfl (by omega) (by simp)
  have S1 := S0.out.below BA (by omega)
  have CA := among_any g M _ 4 4 _ _ S1 (by omega) RA (by omega) (by omega)
  have T1 := Lib.hid (tch_below2 T0.out BA)
  have K1 := Lib.hid (K0.out.below BA hk0)
  clear RA S1 T0 S0 K0 BA
  go_wp2_with fail
  refine CA.mono ?_
  rintro e w2 ⟨⟨z, rfl, hz⟩, hs2, ht2⟩
  have zb : 1960 ≤ z ∧ z ≤ 6593 := by simp at hz; omega
  have K2 := Lib.hid (K1.out.tch ht2 (.inr (by omega)))
  have T2 := Lib.hid (T1.out.trans ht2)
  have CP := pick_any g (M + 2) 16 w2 hs2 (by omega) (by omega) (by omega)
  clear CA hs2 ht2 hz K1 T1
  go_wp2_with fail
  refine CP.mono ?_
  rintro e w3 ⟨⟨l, rfl, l0, l1⟩, hs3, ht3⟩
  have K3 := K2.out.tch ht3 (.inr (by omega))
  have T3 := T2.out.trans ht3
  have hk3 := K3.lt
  obtain ⟨q, hq⟩ : ∃ q, q = w3.heap.size := ⟨_, rfl⟩
  have BB := (Below.refl w3.heap.size w3).alloc (Nat.le_refl _) (.cells #[.int .i64 z, .int .i64 (320 + l), .int .i64 0, .int .i64 0] 39)
  have KP := Blk.new w3 39 #[.int .i64 z, .int .i64 (320 + l), .int .i64 0, .int .i64 0]
  have K4 := Lib.hid (K3.below BB hk3)
  have S4 := Lib.hid (hs3.below BB (by omega))
  have T4 := Lib.hid (tch_below2 T3 BB)
  have hsz3 := T3.size
  rw [← hq] at KP
  have KP := Lib.hid KP
  have rq : r < q := by omega
  have wq : w.heap.size ≤ q := by omega
  clear CP hs3 ht3 K3 T3 K2 T2 BB
  go_upto_region 2 with fail
  rw [← hq]
  clear hq hk3 hsz3
  generalize w3.alloc (.cells #[.int .i64 z, .int .i64 (320 + l), .int .i64 0, .int .i64 0] 39) = w4 at KP K4 S4 T4 ⊢
  have CP := pick_any g (M + 2 + 2) 260 w4 S4.out (by omega) (by omega) (by omega)
  clear S4
  go_wp2_with fail
  refine CP.mono ?_
  rintro e w5 ⟨⟨y, rfl, y0, y1⟩, hs5, ht5⟩
  have KP5 := KP.out.tch ht5 (.inr (by omega))
  have hc := KP5.cell
  have hf := KP5.frozen
  have KP6 := KP5.set_ 2 (.int .i64 (300 + 10 * y))
  simp at KP6
  have K6 := Lib.hid ((K4.out.tch ht5 (.inr (by omega))).far (p := ⟨q, 2, none⟩) (by show r ≠ q; omega) (.int .i64 (300 + 10 * y)))
  have S6 := Lib.hid (hs5.far (p := ⟨q, 2, none⟩) (by show g < q; omega) (.int .i64 (300 + 10 * y)))
  have T6 := Lib.hid (tch_new (T4.out.trans ht5) (p := ⟨q, 2, none⟩) wq (.int .i64 (300 + 10 * y)))
  have KP6 := Lib.hid KP6
  clear CP hs5 ht5 K4 T4 KP KP5
  go_upto_region 3 with fail
  clear hc hf
  generalize w5.setCell ⟨q, 2, none⟩ (.int .i64 (300 + 10 * y)) = w6 at KP6 K6 S6 T6 ⊢
  have CP := pick_any g (M + 2 + 2 + 2) 90 w6 S6.out (by omega) (by omega) (by omega)
  clear S6
  go_wp2_with fail
  refine CP.mono ?_
  rintro e w7 ⟨⟨u, rfl, u0, u1⟩, hs7, ht7⟩
  have KP7 := KP6.out.tch ht7 (.inr (by omega))
  have hc := KP7.cell
  have hf := KP7.frozen
  have KP8 := KP7.set_ 3 (.int .i64 (60000 + 1000 * u))
  simp at KP8
  have K8 := (K6.out.tch ht7 (.inr (by omega))).far (p := ⟨q, 3, none⟩) (by show r ≠ q; omega) (.int .i64 (60000 + 1000 * u))
  have S8 := Lib.hid (hs7.far (p := ⟨q, 3, none⟩) (by show g < q; omega) (.int .i64 (60000 + 1000 * u)))
  have T8 := Lib.hid (tch_new (T6.out.trans ht7) (p := ⟨q, 3, none⟩) wq (.int .i64 (60000 + 1000 * u)))
  clear CP hs7 ht7 K6 T6 KP6 KP7
  go_upto_region 4 with fail
  clear hc hf
  generalize w7.setCell ⟨q, 3, none⟩ (.int .i64 (60000 + 1000 * u)) = w8 at KP8 K8 S8 T8 ⊢
  have hc := KP8.cell
  have hr := K8.cell
  have hrf := K8.frozen
  go_wp2
  refine bodyPost_ret (v := cordV z (320 + l) (300 + 10 * y) (60000 + 1000 * u)) (by simp [results, Try.results79, go_sem, hr]) rfl ⟨⟨z, 320 + l, 300 + 10 * y, 60000 + 1000 * u⟩, rfl, ⟨by simp only; omega, by simp only; omega, by simp only; omega, by simp only; omega⟩, ?_, ?_⟩
  · exact ((((S8.out.mono (by omega)).far (p := ⟨r, 0, none⟩) gr _).far (p := ⟨r, 1, none⟩) gr _).far (p := ⟨r, 2, none⟩) gr _).far (p := ⟨r, 3, none⟩) gr _
  · have wr : w.heap.size ≤ r := by rw [HR.out]; exact Nat.le_refl _
    exact tch_new (tch_new (tch_new (tch_new T8.out (p := ⟨r, 0, none⟩) wr _) (p := ⟨r, 1, none⟩) wr _) (p := ⟨r, 2, none⟩) wr _) (p := ⟨r, 3, none⟩) wr _
theorem own_tchK {w w' : World} {L n k lo hi : Nat} {t : TypeId} {v : Value} {xs : List Value} (h : w.ownsRow L t k v n xs) (ht : Tch lo hi w w') (hs : hi ≤ L) : w'.ownsRow L t k v n xs := by
  refine ⟨h.1, ?_⟩
  rcases h.2 with hn | ⟨g, cap, cur, hv, hb, hg, rest⟩
  · exact .inl hn
  · refine .inr ⟨g, cap, cur, hv, hb, ?_, rest⟩
    have hlt : g < w.heap.size := by
      rcases Nat.lt_or_ge g w.heap.size with h' | h'
      · exact h'
      · rw [Array.getElem?_eq_none h'] at hg; cases hg
    rw [ht.block g hlt (.inr (by omega))]
    exact hg
theorem own_farK {w : World} {L n k : Nat} {t : TypeId} {v : Value} {xs : List Value} (h : w.ownsRow L t k v n xs) {p : Addr} (hp : v.ownBlock ≠ some p.block) (u : Value) : (w.setCell p u).ownsRow L t k v n xs := by
  refine ⟨h.1, ?_⟩
  rcases h.2 with hn | ⟨g, cap, cur, rfl, hb, hg, rest⟩
  · exact .inl hn
  · refine .inr ⟨g, cap, cur, rfl, hb, ?_, rest⟩
    rw [Below.heap_setCell _ _ _ _ (fun e => hp (by simp [Value.ownBlock, e]))]
    exact hg
theorem own_neK {w : World} {L n k : Nat} {v : Value} {xs : List Value} {N : Nat} {t t' : TypeId} {cs : Array Value} (h : w.ownsRow L t' k v n xs) (hk : Blk w N t cs) (ht : t ≠ t') : v.ownBlock ≠ some N := by
  intro e
  rcases h.2 with ⟨rfl, _⟩ | ⟨g, cap, cur, rfl, _, hg, _⟩
  · simp [Value.ownBlock] at e
  · simp [Value.ownBlock] at e
    subst e
    unfold Blk at hk
    rw [hg] at hk
    injection hk with hk
    injection hk with _ h2
    exact ht h2.symm
theorem tch_on {lo hi : Nat} {a b c : World} (h : Tch lo hi a b) (k : Below a.heap.size b c) : Tch lo hi a c :=
  ⟨k.os.trans h.os, k.tape.trans h.tape, k.output.trans h.output, Nat.le_trans h.size k.size, fun i h1 h2 => (k.block i h1).trans (h.block i h1 h2)⟩
theorem own_emptyK (w : World) (t : TypeId) (k : Nat) : (w.alloc (.cells #[] t)).ownsRow w.heap.size t k (.slice (some ⟨w.heap.size, 0, none⟩) 0 0) 0 [] :=
  World.ownsRow_lit w #[] 0 (Nat.le_refl _) (Nat.zero_le _) (by simp)
abbrev pitA : Array Value := #[.int .i64 1960, .int .i64 2937, .int .i64 4400, .int .i64 6593]
theorem pit_at {j : Nat} (h : j < 4) : ∃ z : Int, pitA[j]? = some (.int .i64 z) ∧ 1960 ≤ z ∧ z ≤ 6593 := by
  match j, h with
  | 0, _ => exact ⟨1960, rfl, by omega⟩
  | 1, _ => exact ⟨2937, rfl, by omega⟩
  | 2, _ => exact ⟨4400, rfl, by omega⟩
  | 3, _ => exact ⟨6593, rfl, by omega⟩
def DrS (ds : List CordD) : Prop := ∀ x ∈ ds, cordDr x
theorem DrS.add {ds : List CordD} {x : CordD} (h : DrS ds) (hx : cordDr x) : DrS (ds ++ [x]) := by
  intro y hy
  simp at hy
  rcases hy with hy | rfl
  · exact h y hy
  · exact hx
set_option maxRecDepth 100000 in
set_option maxHeartbeats 4000000 in
theorem l09Draw_any (g M : Nat) (w : World) (h : SrcS w g M) (hM : M ≤ 1000) :
    Calls Try.prog 46 #[.pointer (some ⟨g, 0, none⟩)] w fun e w' => ∃ (v : Value) (ds : List CordD), e = .returned v ∧ w'.ownsRow w.heap.size 39 4 v ds.length (ds.flatMap cordF) ∧ DrS ds ∧ ds.length ≤ 4 ∧ SrcS w' g (M + 40) ∧ Tch g (g + 1) w w' := by
  have hg := h.lt
  have O0 := own_emptyK w 39 4
  have B0 := (Below.refl w.heap.size w).alloc (Nat.le_refl _) (.cells #[] 39)
  have S0 := h.below B0 hg
  have BA := (Below.refl (w.alloc (.cells #[] 39)).heap.size (w.alloc (.cells #[] 39))).alloc (Nat.le_refl _) (.cells pitA 2)
  have KP : Blk ((w.alloc (.cells #[] 39)).alloc (.cells pitA 2)) (w.heap.size + 1) 2 pitA := by
    have := Blk.new (w.alloc (.cells #[] 39)) 2 pitA
    simpa using this
  have O1 := Lib.hid (own_tchK O0 (Tch.of_below BA g (g + 1)) (by omega))
  have S1 := Lib.hid (S0.below BA (by simp; omega))
  have T1 := Lib.hid ((Tch.of_below B0 g (g + 1)).trans (Tch.of_below BA g (g + 1)))
  obtain ⟨pb, hpb⟩ : ∃ pb, pb = w.heap.size + 1 := ⟨_, rfl⟩
  have gpb : g + 1 ≤ pb := by omega
  rw [← hpb] at KP
  have KP := Lib.hid KP
  clear O0 B0 S0 BA h
  go_enter Try.func46, Try.ntmps46
  go_upto_region 3 with fail
  rw [← hpb]
  clear hpb
  generalize (w.alloc (.cells #[] 39)).alloc (.cells pitA 2) = w1 at O1 S1 T1 KP ⊢
  go_wp2_with fail
  go_loopw [5, 3] (fun kv v wr => ∃ (j : Nat) (ds : List CordD), j ≤ 4 ∧ kv = .int .i64 j ∧ ds.length ≤ j ∧ Hid (DrS ds) ∧ Hid (wr.ownsRow w.heap.size 39 4 v ds.length (ds.flatMap cordF)) ∧ Hid (SrcS wr g (M + 10 * j)) ∧ Hid (Tch g (g + 1) w wr) ∧ Hid (Blk wr pb 2 pitA)) (fun kv _ _ => 4 - (intOf kv).toNat)
  case atStart => exact ⟨0, [], by omega, rfl, by simp, Lib.hid (by simp [DrS]), O1, Lib.hid (S1.out.mono (by omega)), T1, KP⟩
  case round =>
    obtain ⟨j, ds, hj, rfl, hl, D, O, S, T, K⟩ := hrel
    by_cases hlt : j < 4
    · have CP := pick_any g (M + 10 * j) 4 wr S.out (by omega) (by omega) (by omega)
      have hsz := T.out.size
      clear S
      go_wp2_with fail
      refine CP.mono ?_
      rintro e w2 ⟨⟨p, rfl, p0, p1⟩, hs2, ht2⟩
      have O2 := Lib.hid (own_tchK O.out ht2 (show g + 1 ≤ w.heap.size by omega))
      have T2 := Lib.hid (T.out.trans ht2)
      have S2 := Lib.hid hs2
      have K2 := Lib.hid (K.out.tch ht2 (.inr gpb))
      clear CP hs2 ht2 O T K
      by_cases hp : 0 < p
      · have CD := l09DrawOne_any g (M + 10 * j + 2) w2 S2.out (by omega)
        clear S2
        go_wp2_with fail
        refine CD.mono ?_
        rintro e w3 ⟨x, rfl, hx, hs3, ht3⟩
        obtain ⟨x0, x1, x2, x3⟩ := x
        have T3 := T2.out.trans ht3
        have hsz3 := T3.size
        have K3 := K2.out.tch ht3 (.inr gpb)
        have hk3 := K3.lt
        have O3 := own_tchK O2.out ht3 (show g + 1 ≤ w.heap.size by omega)
        have NV : Hid (∀ k, u3.ownBlock = some k → k < w3.heap.size) := Lib.hid fun k hk => (O3.lt k hk).2
        have BB := (Below.refl w3.heap.size w3).alloc (Nat.le_refl _) (.cells #[.int .i64 x0, .int .i64 x1, .int .i64 x2, .int .i64 x3] 39)
        have KQ := Blk.new w3 39 #[.int .i64 x0, .int .i64 x1, .int .i64 x2, .int .i64 x3]
        obtain ⟨q, hq⟩ : ∃ q, q = w3.heap.size := ⟨_, rfl⟩
        rw [← hq] at NV
        have K4 := Lib.hid (K3.below BB hk3)
        have S4 := Lib.hid (hs3.below BB (by omega))
        have T4 := Lib.hid (tch_below2 T3 BB)
        have O4 := Lib.hid (own_tchK O3 (Tch.of_below BB g (g + 1)) (show g + 1 ≤ w.heap.size by omega))
        have hb4 : (w3.alloc (.cells #[.int .i64 x0, .int .i64 x1, .int .i64 x2, .int .i64 x3] 39)).heap.size = q + 1 := by simp [hq]
        rw [← hq] at KQ
        have KQ := Lib.hid KQ
        have wq : w.heap.size ≤ q := by omega
        have pq : pb < q := by omega
        have HX := Lib.hid hx
        obtain ⟨z, hz, z0, z1⟩ := pit_at hlt
        have HZ := Lib.hid hz
        clear CD hs3 ht3 K3 T3 K2 T2 O2 O3 BB hx hz
        go_upto_region 8 with fail
        rw [← hq]
        have H4 := Lib.hid hb4
        clear hq hk3 hsz3 hb4
        generalize w3.alloc (.cells #[.int .i64 x0, .int .i64 x1, .int .i64 x2, .int .i64 x3] 39) = w4 at KQ K4 S4 T4 O4 H4 ⊢
        have hc := KQ.out.cell
        have hf := KQ.out.frozen
        have c0 := (K4.out.cell j).trans HZ.out
        have KQ5 := KQ.out.set_ 0 (.int .i64 z)
        simp at KQ5
        have K5 := Lib.hid (K4.out.far (p := ⟨q, 0, none⟩) (by show pb ≠ q; omega) (.int .i64 z))
        have S5 := Lib.hid (S4.out.far (p := ⟨q, 0, none⟩) (by show g < q; omega) (.int .i64 z))
        have T5 := Lib.hid (tch_new T4.out (p := ⟨q, 0, none⟩) wq (.int .i64 z))
        have O5 := Lib.hid (own_farK O4.out (p := ⟨q, 0, none⟩) (fun e => by have := NV.out q e; omega) (.int .i64 z))
        have KQ5 := Lib.hid KQ5
        clear KQ K4 S4 T4 O4 H4
        go_upto_region 9 with fail
        clear hc hf c0
        generalize w4.setCell ⟨q, 0, none⟩ (.int .i64 z) = w5 at KQ5 K5 S5 T5 O5 ⊢
        have hc := KQ5.out.cell
        have hsz := T5.out.size
        have HY := Lib.hid (D.out.add (x := ⟨z, x1, x2, x3⟩) ⟨⟨z0, z1⟩, HX.out.2.1, HX.out.2.2.1, HX.out.2.2.2⟩)
        go_wp2_with (at_builtin; refine appC rfl (.tmp 25) (.tmp 27) rfl w.heap.size u3 ds z x1 x2 x3 rfl O5.out rfl hsz (by omega) ?_; intro v9 w9 o9 b9 g9; have O9 := Lib.hid o9; have B9 := Lib.hid b9; have G9 := Lib.hid g9; clear o9 b9 g9)
        have NE : Hid (some pb ≠ Value.ownBlock u3) := Lib.hid (fun e => own_neK O5.out K5.out (by decide) e.symm)
        go_roundw
        case rel => exact ⟨j + 1, ds ++ [⟨z, x1, x2, x3⟩], by omega, by go_num, by simp; omega, HY, O9, Lib.hid ((S5.out.below B9.out hg).mono (by omega)), Lib.hid (tch_on T5.out B9.out), Lib.hid (K5.out.grown G9.out NE.out)⟩
        case measure => simp [intOf]; omega
      · go_wp2
        go_roundw
        case rel => exact ⟨j + 1, ds, by omega, by go_num, by omega, D, O2, Lib.hid (S2.out.mono (by omega)), T2, K2⟩
        case measure => simp [intOf]; omega
    · obtain rfl : j = 4 := by omega
      go_wp2
      go_ret
      exact ⟨_, ds, rfl, O.out, D.out, by omega, S.out.mono (by omega), T.out⟩
theorem R8Strings_any (A : Option Addr) (c n : Nat) (bs : List Int) (w : World) (h : Rd w w.heap.size 1 A n (bv bs)) (hb : ∀ b ∈ bs, byteR b) (hn : n ≤ 1048576) :
    Calls Try.prog 9 #[.slice A n c] w fun e w' => ∃ (v : Value) (ds : List CordD), e = .returned v ∧ w'.ownsRow w.heap.size 39 4 v ds.length (ds.flatMap cordF) ∧ DrS ds ∧ ds.length ≤ 4 ∧ Below w.heap.size w w' := by
  have C1 := l00From_any A c n bs w h hb hn
  clear h hb
  go_enter Try.func9, Try.ntmps9
  go_wp2_with fail
  refine C1.mono ?_
  rintro r w1 ⟨rfl, hs1, hb1⟩
  have C2 := l09Draw_any w.heap.size 0 w1 hs1 (by omega)
  have hsz := hb1.size
  have B1 := Lib.hid hb1
  clear C1 hs1 hb1
  go_wp2_with fail
  refine C2.mono ?_
  rintro r w2 ⟨v, ds, rfl, ho, hz, l4, _, ht⟩
  have B2 := Lib.hid (ht.below B1.out (Nat.le_refl _) hsz)
  have O2 := Lib.hid (ho.mono hsz)
  clear ht ho C2
  go_wp2
  go_ret
  exact ⟨v, ds, rfl, O2.out, hz, l4, B2.out⟩
end Go.Proofs.Ytemkggecempmgaa
