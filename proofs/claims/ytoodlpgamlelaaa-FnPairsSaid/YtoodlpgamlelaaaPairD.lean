/- Pairs of planks: planks that are drawn. -/
import Derived.Test.YtoodlpgamlelaaaPairX
import Derived.Test.YtoodlpgamlelaaaSrc
import Derived.Test.YtoodlpgamlelaaaFrm
set_option linter.unusedVariables false
set_option linter.unusedSimpArgs false
namespace Go.Proofs.Ytoodlpgamlelaaa
open Go.RowKit

/-- the names of planks that are drawn -/
def nmP : Nat → ByteArray
  | 0 => ⟨#[112, 49]⟩
  | 1 => ⟨#[112, 50]⟩
  | 2 => ⟨#[112, 51]⟩
  | 3 => ⟨#[112, 52]⟩
  | 4 => ⟨#[112, 53]⟩
  | _ => ⟨#[112, 54]⟩
abbrev nmA : Array Value := #[.string ⟨#[112, 49]⟩, .string ⟨#[112, 50]⟩, .string ⟨#[112, 51]⟩, .string ⟨#[112, 52]⟩, .string ⟨#[112, 53]⟩, .string ⟨#[112, 54]⟩]
theorem nmA_at {j : Nat} (h : j < 6) : nmA[j]? = some (.string (nmP j)) := by
  match j, h with
  | 0, _ => rfl
  | 1, _ => rfl
  | 2, _ => rfl
  | 3, _ => rfl
  | 4, _ => rfl
  | 5, _ => rfl
theorem nmP_name {j : Nat} (h : j < 6) : nameB (nmP j) = true := by
  match j, h with
  | 0, _ => decide +kernel
  | 1, _ => decide +kernel
  | 2, _ => decide +kernel
  | 3, _ => decide +kernel
  | 4, _ => decide +kernel
  | 5, _ => decide +kernel
theorem nmP_size {j : Nat} (h : j < 6) : (nmP j).size = 2 := by
  match j, h with
  | 0, _ => rfl
  | 1, _ => rfl
  | 2, _ => rfl
  | 3, _ => rfl
  | 4, _ => rfl
  | 5, _ => rfl
theorem nmP_less : ∀ k, k < 6 → ∀ i, i < k → lessB (nmP i) (nmP k) = true := by decide +kernel
/-- a plank that is drawn -/
def plankDr (x : PlankD) : Prop := (400 ≤ x.a1 ∧ x.a1 ≤ 459) ∧ (120 ≤ x.a2 ∧ x.a2 ≤ 159) ∧ (30 ≤ x.a3 ∧ x.a3 ≤ 44) ∧ (700 ≤ x.a4 ∧ x.a4 ≤ 1590) ∧ (60 ≤ x.a5 ∧ x.a5 ≤ 149)
theorem plankDr_p {x : PlankD} (h : plankDr x) (hn : nameB x.s0 = true) : plankP x = true := by
  obtain ⟨h1, h2, h3, h4, h5⟩ := h
  rw [plankP, plankB, hn, inB_mk (by omega), inB_mk (by omega), inB_mk (by omega), inB_mk (by omega), inB_mk (by omega)]
  rfl
structure DrP (ds : List PlankD) (j : Nat) : Prop where
  ord : ordB plankP (·.s0) ds = true
  nm : ∀ x ∈ ds, ∃ i, i < j ∧ x.s0 = nmP i
theorem ordTo_app {p : PlankD → Bool} {key : PlankD → ByteArray} {ds : List PlankD} {x : PlankD} : ∀ k, k ≤ ds.length → ordTo p key (ds ++ [x]) k = ordTo p key ds k
  | 0, _ => rfl
  | k + 1, h => by
    rw [ordTo, ordTo, ordTo_app k (by omega)]
    congr 1
    cases k with
    | zero => simp only [ordAt]; rw [List.getElem?_append_left (by omega)]
    | succ k => simp only [ordAt]; rw [List.getElem?_append_left (by omega), List.getElem?_append_left (by omega)]
theorem DrP.add {ds : List PlankD} {j : Nat} {x : PlankD} (h : DrP ds j) (hj : j < 6) (hx : plankDr x) (hn : x.s0 = nmP j) : DrP (ds ++ [x]) (j + 1) := by
  have hp := plankDr_p hx (by rw [hn]; exact nmP_name hj)
  refine ⟨?_, fun y hy => ?_⟩
  · rw [ordB, List.length_append, List.length_singleton, ordTo, ordTo_app _ (Nat.le_refl _)]
    have h1 : ordTo plankP (·.s0) ds ds.length = true := h.ord
    rw [h1, Bool.true_and]
    have hl : (ds ++ [x])[ds.length]? = some x := by simp
    by_cases h0 : ds.length = 0
    · rw [h0] at hl ⊢
      exact ordAt_zero hl hp
    · have hy : (ds ++ [x])[ds.length - 1]? = some (ds[ds.length - 1]'(by omega)) := by
        rw [List.getElem?_append_left (by omega)]; exact List.getElem?_eq_getElem (by omega)
      rw [ordAt_is (by omega) hl hy hp]
      obtain ⟨i, hi, e⟩ := h.nm (ds[ds.length - 1]'(by omega)) (List.getElem_mem _)
      rw [e, hn]
      exact nmP_less j hj i hi
  · simp at hy
    rcases hy with hy | rfl
    · obtain ⟨i, hi, e⟩ := h.nm y hy
      exact ⟨i, by omega, e⟩
    · exact ⟨j, by omega, hn⟩
theorem DrP.next {ds : List PlankD} {j : Nat} (h : DrP ds j) : DrP ds (j + 1) := ⟨h.ord, fun x hx => by obtain ⟨i, hi, e⟩ := h.nm x hx; exact ⟨i, by omega, e⟩⟩
theorem DrP.z {ds : List PlankD} (h : DrP ds 6) : plankZ ds := fun x hx => by
  obtain ⟨i, hi, e⟩ := h.nm x hx
  rw [e, nmP_size hi]; unfold maxLen; omega
theorem DrP.ok {ds : List PlankD} (h : DrP ds 6) (hl : ds.length ≤ 6) : planksB ds = true := by
  rw [planksB, h.ord, Bool.true_and]
  exact decide_eq_true (by omega)
/-- append of one plank to a row of the call's own -/
theorem appP {w : World} {ops : Array Oper} {rest : List Oper} {o : Oper} {a : Act} {Q : Exit → Act → World → Prop} (hgd : o.guard = none) (s x : Operand)
    (ho : o.op = .call { callee := .builtin .append, args := #[s, x], argTypes := #[24, 24] }) (L : Nat) (v : Value) (ds : List PlankD) (s0 : ByteArray) (y1 y2 y3 y4 y5 : Int) (hs : a.eval s = v) (hown : w.ownsRow L 35 6 v ds.length (ds.flatMap plankF))
    (hx : a.eval x = .slice (some ⟨w.heap.size, 0, none⟩) 1 1) (hL : L ≤ w.heap.size) (hn : ds.length ≤ 1000)
    (h : ∀ v' w', w'.ownsRow L 35 6 v' (ds ++ [(⟨s0, y1, y2, y3, y4, y5⟩ : PlankD)]).length ((ds ++ [(⟨s0, y1, y2, y3, y4, y5⟩ : PlankD)]).flatMap plankF) → Below L w w' → w.grownBy w' v.ownBlock → wpList Try.prog ops Q rest (a.put o.dst v') w') :
    wpList Try.prog ops Q (o :: rest) a (w.alloc (.cells #[.string s0, .int .i64 y1, .int .i64 y2, .int .i64 y3, .int .i64 y4, .int .i64 y5] 35)) := by
  obtain ⟨i0, hi, hz0, hz1, hz2⟩ := info_parts infoPlank
  refine wpList_append_own _ hgd s x 24 ho L 35 i0 (.agg #[.string ByteArray.empty, .int .i64 0, .int .i64 0, .int .i64 0, .int .i64 0, .int .i64 0]) 6 56 Try.underlying24 hi hz0 hz1 hz2 rfl (by decide) v ds.length (ds.flatMap plankF) hs (hown.alloc _) ⟨w.heap.size, 0, none⟩ 1 1 [.string s0, .int .i64 y1, .int .i64 y2, .int .i64 y3, .int .i64 y4, .int .i64 y5] hx rfl ?_ ?_ ?_ ?_ ?_ ?_
  · intro j u hu
    have hb := (Blk.new w 35 #[.string s0, .int .i64 y1, .int .i64 y2, .int .i64 y3, .int .i64 y4, .int .i64 y5]).cell
    rw [show ((⟨w.heap.size, 0, none⟩ : Addr).add j) = ⟨w.heap.size, j, none⟩ by unfold Addr.add; split <;> simp_all]
    rw [hb j]
    simpa using hu
  · intro u hu
    simp at hu
    rcases hu with rfl | rfl | rfl | rfl | rfl | rfl <;> rfl
  · unfold maxLen; omega
  · omega
  · simp; omega
  · intro v' w' h1 h2 _
    refine h v' w' (by simpa [plankF] using h1) ?_ ((World.grownBy_alloc w _ _).trans h2)
    have b1 : Below L w (w.alloc (.cells #[.string s0, .int .i64 y1, .int .i64 y2, .int .i64 y3, .int .i64 y4, .int .i64 y5] 35)) := (Below.refl L w).alloc hL _
    exact b1.grown h2 (by simp; omega) fun k hk => (hown.lt k hk).1
set_option maxRecDepth 100000 in
set_option maxHeartbeats 4000000 in
theorem l03DrawOne_any (g M : Nat) (id : ByteArray) (w : World) (h : SrcS w g M) (hM : M ≤ 1000000) :
    Calls Try.prog 38 #[.pointer (some ⟨g, 0, none⟩), .string id] w fun e w' => ∃ x : PlankD, e = .returned (plankV x.s0 x.a1 x.a2 x.a3 x.a4 x.a5) ∧ x.s0 = id ∧ plankDr x ∧ SrcS w' g (M + 10) ∧ Tch g (g + 1) w w' := by
  have hg := h.lt
  have B0 := (Below.refl w.heap.size w).alloc (Nat.le_refl _) (.cells #[.string ⟨#[]⟩, .int .i64 0, .int .i64 0, .int .i64 0, .int .i64 0, .int .i64 0] 35)
  have T0 := Lib.hid (Tch.of_below B0 g (g + 1))
  have S0 := h.below B0 hg
  have K0 := Lib.hid (Blk.new w 35 #[.string ⟨#[]⟩, .int .i64 0, .int .i64 0, .int .i64 0, .int .i64 0, .int .i64 0])
  obtain ⟨r, hr⟩ : ∃ r, r = w.heap.size := ⟨_, rfl⟩
  rw [← hr] at K0
  have gr : g < r := by omega
  clear h B0
  go_enter Try.func38, Try.ntmps38
  go_upto_region 1 with fail
  rw [← hr]
  have HR := Lib.hid hr
  clear hr
  generalize w.alloc (.cells #[.string ⟨#[]⟩, .int .i64 0, .int .i64 0, .int .i64 0, .int .i64 0, .int .i64 0] 35) = w0 at T0 S0 K0 ⊢
  have CP := pick_any g M 60 w0 S0 (by omega) (by omega) (by omega)
  clear S0
  go_wp2_with fail
  refine CP.mono ?_
  rintro e w1 ⟨⟨z, rfl, z0, z1⟩, hs1, ht1⟩
  have K1 := Lib.hid (K0.out.tch ht1 (.inr (by omega)))
  have T1 := Lib.hid (T0.out.trans ht1)
  have CP := pick_any g (M + 2) 40 w1 hs1 (by omega) (by omega) (by omega)
  clear hs1 ht1 K0 T0
  go_wp2_with fail
  refine CP.mono ?_
  rintro e w3 ⟨⟨l, rfl, l0, l1⟩, hs3, ht3⟩
  have K3 := K1.out.tch ht3 (.inr (by omega))
  have T3 := T1.out.trans ht3
  have hk3 := K3.lt
  obtain ⟨q, hq⟩ : ∃ q, q = w3.heap.size := ⟨_, rfl⟩
  have BB := (Below.refl w3.heap.size w3).alloc (Nat.le_refl _) (.cells #[.string id, .int .i64 (400 + z), .int .i64 (120 + l), .int .i64 0, .int .i64 0, .int .i64 0] 35)
  have KP := Blk.new w3 35 #[.string id, .int .i64 (400 + z), .int .i64 (120 + l), .int .i64 0, .int .i64 0, .int .i64 0]
  have K4 := Lib.hid (K3.below BB hk3)
  have S4 := Lib.hid (hs3.below BB (by omega))
  have T4 := Lib.hid (tch_below2 T3 BB)
  have hsz3 := T3.size
  rw [← hq] at KP
  have KP := Lib.hid KP
  have rq : r < q := by omega
  have wq : w.heap.size ≤ q := by omega
  clear CP hs3 ht3 K3 T3 K1 T1 BB
  go_upto_region 2 with fail
  rw [← hq]
  clear hq hk3 hsz3
  generalize w3.alloc (.cells #[.string id, .int .i64 (400 + z), .int .i64 (120 + l), .int .i64 0, .int .i64 0, .int .i64 0] 35) = w4 at KP K4 S4 T4 ⊢
  have CP := pick_any g (M + 2 + 2) 15 w4 S4.out (by omega) (by omega) (by omega)
  clear S4
  go_wp2_with fail
  refine CP.mono ?_
  rintro e w5 ⟨⟨y, rfl, y0, y1⟩, hs5, ht5⟩
  have KP5 := KP.out.tch ht5 (.inr (by omega))
  have hc := KP5.cell
  have hf := KP5.frozen
  have KP6 := KP5.set_ 3 (.int .i64 (30 + y))
  simp at KP6
  have K6 := Lib.hid ((K4.out.tch ht5 (.inr (by omega))).far (p := ⟨q, 3, none⟩) (by show r ≠ q; omega) (.int .i64 (30 + y)))
  have S6 := Lib.hid (hs5.far (p := ⟨q, 3, none⟩) (by show g < q; omega) (.int .i64 (30 + y)))
  have T6 := Lib.hid (tch_new (T4.out.trans ht5) (p := ⟨q, 3, none⟩) wq (.int .i64 (30 + y)))
  have KP6 := Lib.hid KP6
  clear CP hs5 ht5 K4 T4 KP KP5
  go_upto_region 3 with fail
  clear hc hf
  generalize w5.setCell ⟨q, 3, none⟩ (.int .i64 (30 + y)) = w6 at KP6 K6 S6 T6 ⊢
  have CP := pick_any g (M + 2 + 2 + 2) 90 w6 S6.out (by omega) (by omega) (by omega)
  clear S6
  go_wp2_with fail
  refine CP.mono ?_
  rintro e w7 ⟨⟨u, rfl, u0, u1⟩, hs7, ht7⟩
  have KP7 := KP6.out.tch ht7 (.inr (by omega))
  have hc := KP7.cell
  have hf := KP7.frozen
  have KP8 := KP7.set_ 4 (.int .i64 (700 + 10 * u))
  simp at KP8
  have K8 := Lib.hid ((K6.out.tch ht7 (.inr (by omega))).far (p := ⟨q, 4, none⟩) (by show r ≠ q; omega) (.int .i64 (700 + 10 * u)))
  have S8 := Lib.hid (hs7.far (p := ⟨q, 4, none⟩) (by show g < q; omega) (.int .i64 (700 + 10 * u)))
  have T8 := Lib.hid (tch_new (T6.out.trans ht7) (p := ⟨q, 4, none⟩) wq (.int .i64 (700 + 10 * u)))
  have KP8 := Lib.hid KP8
  clear CP hs7 ht7 K6 T6 KP6 KP7
  go_upto_region 4 with fail
  clear hc hf
  generalize w7.setCell ⟨q, 4, none⟩ (.int .i64 (700 + 10 * u)) = w8 at KP8 K8 S8 T8 ⊢
  have CP := pick_any g (M + 2 + 2 + 2 + 2) 90 w8 S8.out (by omega) (by omega) (by omega)
  clear S8
  go_wp2_with fail
  refine CP.mono ?_
  rintro e w9 ⟨⟨m, rfl, m0, m1⟩, hs9, ht9⟩
  have KP9 := KP8.out.tch ht9 (.inr (by omega))
  have hc := KP9.cell
  have hf := KP9.frozen
  have KP10 := KP9.set_ 5 (.int .i64 (60 + m))
  simp at KP10
  have K10 := (K8.out.tch ht9 (.inr (by omega))).far (p := ⟨q, 5, none⟩) (by show r ≠ q; omega) (.int .i64 (60 + m))
  have S10 := Lib.hid (hs9.far (p := ⟨q, 5, none⟩) (by show g < q; omega) (.int .i64 (60 + m)))
  have T10 := Lib.hid (tch_new (T8.out.trans ht9) (p := ⟨q, 5, none⟩) wq (.int .i64 (60 + m)))
  clear CP hs9 ht9 K8 T8 KP8 KP9
  go_upto_region 5 with fail
  clear hc hf
  generalize w9.setCell ⟨q, 5, none⟩ (.int .i64 (60 + m)) = wE at KP10 K10 S10 T10 ⊢
  have hc := KP10.cell
  have hr := K10.cell
  have hrf := K10.frozen
  go_wp2
  refine bodyPost_ret (v := plankV id (400 + z) (120 + l) (30 + y) (700 + 10 * u) (60 + m)) (by simp [results, Try.results38, go_sem, hr]) rfl ⟨⟨id, 400 + z, 120 + l, 30 + y, 700 + 10 * u, 60 + m⟩, rfl, rfl, ⟨by simp only; omega, by simp only; omega, by simp only; omega, by simp only; omega, by simp only; omega⟩, ?_, ?_⟩
  · exact ((((((S10.out.mono (by omega)).far (p := ⟨r, 0, none⟩) gr _).far (p := ⟨r, 1, none⟩) gr _).far (p := ⟨r, 2, none⟩) gr _).far (p := ⟨r, 3, none⟩) gr _).far (p := ⟨r, 4, none⟩) gr _).far (p := ⟨r, 5, none⟩) gr _
  · have wr : w.heap.size ≤ r := by rw [HR.out]; exact Nat.le_refl _
    exact tch_new (tch_new (tch_new (tch_new (tch_new (tch_new T10.out (p := ⟨r, 0, none⟩) wr _) (p := ⟨r, 1, none⟩) wr _) (p := ⟨r, 2, none⟩) wr _) (p := ⟨r, 3, none⟩) wr _) (p := ⟨r, 4, none⟩) wr _) (p := ⟨r, 5, none⟩) wr _
set_option maxRecDepth 100000 in
set_option maxHeartbeats 4000000 in
theorem l03Draw_any (g M : Nat) (w : World) (h : SrcS w g M) (hM : M ≤ 1000) :
    Calls Try.prog 19 #[.pointer (some ⟨g, 0, none⟩)] w fun e w' => ∃ (v : Value) (ds : List PlankD), e = .returned v ∧ w'.ownsRow w.heap.size 35 6 v ds.length (ds.flatMap plankF) ∧ DrP ds 6 ∧ ds.length ≤ 6 ∧ Tch g (g + 1) w w' := by
  have hg := h.lt
  have B0 := (Below.refl w.heap.size w).alloc (Nat.le_refl _) (.cells nmA 9)
  have S0 := h.below B0 hg
  have KP0 := Blk.new w 9 nmA
  have O0 := own_emptyK (w.alloc (.cells nmA 9)) 35 6
  have BA := (Below.refl (w.alloc (.cells nmA 9)).heap.size (w.alloc (.cells nmA 9))).alloc (Nat.le_refl _) (.cells #[] 35)
  have KP := Lib.hid (KP0.below BA KP0.lt)
  have O1 := Lib.hid (World.ownsRow.mono O0 (base' := w.heap.size) B0.size)
  have S1 := Lib.hid (S0.below BA (by simp; omega))
  have T1 := Lib.hid ((Tch.of_below B0 g (g + 1)).trans (Tch.of_below BA g (g + 1)))
  have e1 : (w.alloc (.cells nmA 9)).heap.size = w.heap.size + 1 := by simp
  rw [e1] at O1
  obtain ⟨pb, hpb⟩ : ∃ pb, pb = w.heap.size := ⟨_, rfl⟩
  have gpb : g + 1 ≤ pb := by omega
  rw [← hpb] at KP O1
  clear O0 B0 S0 BA KP0 h e1
  go_enter Try.func19, Try.ntmps19
  go_upto_region 3 with fail
  rw [← hpb]
  have HPB := Lib.hid hpb
  have gpb2 : w.heap.size ≤ pb := by omega
  clear hpb
  generalize (w.alloc (.cells nmA 9)).alloc (.cells #[] 35) = w1 at O1 S1 T1 KP ⊢
  go_wp2_with fail
  go_loopw [5, 4] (fun kv v wr => ∃ (j : Nat) (ds : List PlankD), j ≤ 6 ∧ kv = .int .i64 j ∧ ds.length ≤ j ∧ Hid (DrP ds j) ∧ Hid (wr.ownsRow pb 35 6 v ds.length (ds.flatMap plankF)) ∧ Hid (SrcS wr g (M + 20 * j)) ∧ Hid (Tch g (g + 1) w wr) ∧ Hid (Blk wr pb 9 nmA)) (fun kv _ _ => 6 - (intOf kv).toNat)
  case atStart => exact ⟨0, [], by omega, rfl, by simp, Lib.hid ⟨rfl, by simp⟩, O1, Lib.hid (S1.out.mono (by omega)), T1, KP⟩
  case round =>
    obtain ⟨j, ds, hj, rfl, hl, D, O, S, T, K⟩ := hrel
    by_cases hlt : j < 6
    · have CP := pick_any g (M + 20 * j) 3 wr S.out (by omega) (by omega) (by omega)
      have hsz := T.out.size
      clear S
      go_wp2_with fail
      refine CP.mono ?_
      rintro e w2 ⟨⟨p, rfl, p0, p1⟩, hs2, ht2⟩
      have O2 := Lib.hid (own_tchK O.out ht2 (show g + 1 ≤ pb by omega))
      have T2 := Lib.hid (T.out.trans ht2)
      have S2 := Lib.hid hs2
      have K2 := Lib.hid (K.out.tch ht2 (.inr gpb))
      clear CP hs2 ht2 O T K
      by_cases hp : 0 < p
      · have CD := l03DrawOne_any g (M + 20 * j + 2) (nmP j) w2 S2.out (by omega)
        have c0 := (K2.out.cell j).trans (nmA_at hlt)
        clear S2
        go_wp2_with fail
        refine CD.mono ?_
        rintro e w3 ⟨x, rfl, hx0, hx, hs3, ht3⟩
        obtain ⟨x0, x1, x2, x3, x4, x5⟩ := x
        have T3 := T2.out.trans ht3
        have K3 := K2.out.tch ht3 (.inr gpb)
        have O3 := Lib.hid (own_tchK O2.out ht3 (show g + 1 ≤ pb by omega))
        have hsz := T3.size
        have HY := Lib.hid (D.out.add (x := ⟨x0, x1, x2, x3, x4, x5⟩) hlt hx hx0)
        have S3 := Lib.hid hs3
        have K3 := Lib.hid K3
        have T3 := Lib.hid T3
        have szp : pb ≤ w3.heap.size := Nat.le_of_lt K3.out.lt
        clear CD hs3 ht3 T2 K2 O2 hx hx0 c0 D
        simp only
        go_wp2_with (at_builtin; refine appP rfl (.tmp 17) (.tmp 24) rfl pb u4 ds x0 x1 x2 x3 x4 x5 rfl O3.out rfl szp (by omega) ?_; intro v9 w9 o9 b9 g9; have O9 := Lib.hid o9; have B9 := Lib.hid b9; have G9 := Lib.hid g9; clear o9 b9 g9)
        have NE : Hid (some pb ≠ Value.ownBlock u4) := Lib.hid (fun e => own_neK O3.out K3.out (by decide) e.symm)
        go_roundw
        case rel => exact ⟨j + 1, ds ++ [⟨x0, x1, x2, x3, x4, x5⟩], by omega, by go_num, by simp; omega, HY, O9, Lib.hid ((S3.out.below B9.out (by omega)).mono (by omega)), Lib.hid (tch_on T3.out (B9.out.mono (by omega))), Lib.hid (K3.out.grown G9.out NE.out)⟩
        case measure => simp [intOf]; omega
      · have D2 := Lib.hid D.out.next
        go_wp2
        go_roundw
        case rel => exact ⟨j + 1, ds, by omega, by go_num, by omega, D2, O2, Lib.hid (S2.out.mono (by omega)), T2, K2⟩
        case measure => simp [intOf]; omega
    · obtain rfl : j = 6 := by omega
      go_wp2
      go_ret
      exact ⟨_, ds, rfl, (O.out.mono gpb2), D.out, by omega, T.out⟩
theorem R8Planks_any (A : Option Addr) (c n : Nat) (bs : List Int) (w : World) (h : Rd w w.heap.size 1 A n (bv bs)) (hb : ∀ b ∈ bs, byteR b) (hn : n ≤ 1048576) :
    Calls Try.prog 6 #[.slice A n c] w fun e w' => ∃ (v : Value) (ds : List PlankD), e = .returned v ∧ w'.ownsRow w.heap.size 35 6 v ds.length (ds.flatMap plankF) ∧ DrP ds 6 ∧ ds.length ≤ 6 ∧ Below w.heap.size w w' := by
  have C1 := l00From_any A c n bs w h hb hn
  clear h hb
  go_enter Try.func6, Try.ntmps6
  go_wp2_with fail
  refine C1.mono ?_
  rintro r w1 ⟨rfl, hs1, hb1⟩
  have C2 := l03Draw_any w.heap.size 0 w1 hs1 (by omega)
  have hsz := hb1.size
  have B1 := Lib.hid hb1
  clear C1 hs1 hb1
  go_wp2_with fail
  refine C2.mono ?_
  rintro r w2 ⟨v, ds, rfl, ho, hz, l6, ht⟩
  have B2 := Lib.hid (ht.below B1.out (Nat.le_refl _) hsz)
  have O2 := Lib.hid (ho.mono hsz)
  clear ht ho C2
  go_wp2
  go_ret
  exact ⟨v, ds, rfl, O2.out, hz, l6, B2.out⟩
end Go.Proofs.Ytoodlpgamlelaaa
