/- MixPots: the program's and the reference's. -/
import Derived.Test.YtmngjlamnkkaeaaStructs
import Derived.Test.YtmngjlamnkkaeaaAnyS
import Derived.Test.YtmngjlamnkkaeaaOpen
import Derived.Deep.DeepCutAuto
set_option linter.unusedVariables false
set_option linter.unusedSimpArgs false
namespace Go.Proofs.Ytmngjlamnkkaeaa
open Go.RowKit

structure MixR where
  s0 : ByteArray
  a1 : Int
  a2 : Int
  a3 : Int
  a4 : Int
  code : Int
def mixL (s0 : ByteArray) (a1 a2 a3 a4 : Int) (t0 : ByteArray) (b1 b2 b3 b4 : Int) (id : ByteArray) : MixR :=
  if (potB s0 a1 a2 a3 a4 && potB t0 b1 b2 b3 b4) = false then ⟨⟨#[]⟩, 0, 0, 0, 0, 1⟩
  else if nameB id = false then ⟨⟨#[]⟩, 0, 0, 0, 0, 2⟩
  else if potB id (a1 + b1) (a2 + b2) (min a3 b3) (max a4 b4) = false then ⟨⟨#[]⟩, 0, 0, 0, 0, 6⟩
  else ⟨id, a1 + b1, a2 + b2, min a3 b3, max a4 b4, 0⟩
abbrev potC0 (s0 : ByteArray) (a1 a2 a3 a4 : Int) : Array Value := #[.string s0, .int .i64 a1, .int .i64 a2, .int .i64 a3, .int .i64 a4]
def RetM (w : World) (r : MixR) (e : Ending) (w' : World) : Prop := e = .returned (.tuple #[potV r.s0 r.a1 r.a2 r.a3 r.a4, .int .i64 r.code]) ∧ Below w.heap.size w w'
theorem retM {w w' : World} {r q : MixR} {e : Ending} (h : q = r) (he : e = .returned (.tuple #[potV r.s0 r.a1 r.a2 r.a3 r.a4, .int .i64 r.code])) (hb : Below w.heap.size w w') : RetM w q e w' := by subst h; exact ⟨he, hb⟩
section
variable (s0 : ByteArray) (a1 a2 a3 a4 : Int) (t0 : ByteArray) (b1 b2 b3 b4 : Int) (id : ByteArray)
/-- the three boxes of a call -/
def Box3 (w wa : World) (ga gb gr : Nat) (ca cb cr : Array Value) : Prop :=
  w.heap.size = ga ∧ ga < gb ∧ gb < gr ∧ Blk wa ga 25 ca ∧ Blk wa gb 25 cb ∧ Blk wa gr 25 cr ∧ Below w.heap.size w wa
theorem box3 (w : World) (ca cb cr : Array Value) : Box3 w (((w.alloc (.cells ca 25)).alloc (.cells cb 25)).alloc (.cells cr 25)) w.heap.size (w.heap.size + 1) (w.heap.size + 1 + 1) ca cb cr := by
  refine ⟨rfl, by omega, by omega, ((Blk.new _ _ _).alloc _).alloc _, ?_, ?_, (((Below.refl _ _).alloc (Nat.le_refl _) _).alloc (by simp) _).alloc (by simp; omega) _⟩
  · have := Blk.new (w.alloc (.cells ca 25)) 25 cb
    simp at this
    exact this.alloc _
  · have := Blk.new ((w.alloc (.cells ca 25)).alloc (.cells cb 25)) 25 cr
    simpa using this
theorem Box3.next {w wa wb : World} {ga gb gr : Nat} {ca cb cr : Array Value} (h : Box3 w wa ga gb gr ca cb cr) (hb : Below wa.heap.size wa wb) : Box3 w wb ga gb gr ca cb cr := by
  obtain ⟨h1, h2, h3, h4, h5, h6, h7⟩ := h
  exact ⟨h1, h2, h3, h4.below hb h4.lt, h5.below hb h5.lt, h6.below hb h6.lt, below_more h7 hb (Nat.le_refl _)⟩
theorem below_set5 {w W : World} {g : Nat} (hb : Below w.heap.size w W) (hg : w.heap.size ≤ g) (x0 x1 x2 x3 x4 : Value) :
    Below w.heap.size w (((((W.setCell ⟨g, 0, none⟩ x0).setCell ⟨g, 1, none⟩ x1).setCell ⟨g, 2, none⟩ x2).setCell ⟨g, 3, none⟩ x3).setCell ⟨g, 4, none⟩ x4) :=
  ((((hb.setCell (p := ⟨g, 0, none⟩) hg _).setCell (p := ⟨g, 1, none⟩) hg _).setCell (p := ⟨g, 2, none⟩) hg _).setCell (p := ⟨g, 3, none⟩) hg _).setCell (p := ⟨g, 4, none⟩) hg _
set_option maxRecDepth 100000 in
set_option maxHeartbeats 4000000 in
theorem MixPots_i (w : World) (z0 : s0.size ≤ maxLen) (z1 : t0.size ≤ maxLen) (z2 : id.size ≤ maxLen) :
    Calls Try.prog 7 #[potV s0 a1 a2 a3 a4, potV t0 b1 b2 b3 b4, .string id] w (RetM w (mixL s0 a1 a2 a3 a4 t0 b1 b2 b3 b4 id)) := by
  have HX := box3 w (potC0 s0 a1 a2 a3 a4) (potC0 t0 b1 b2 b3 b4) (potC0 ⟨#[]⟩ 0 0 0 0)
  obtain ⟨gb, hgb⟩ : ∃ x, x = w.heap.size + 1 := ⟨_, rfl⟩
  obtain ⟨gr, hgr⟩ : ∃ x, x = w.heap.size + 1 + 1 := ⟨_, rfl⟩
  obtain ⟨ga, hga⟩ : ∃ x, x = w.heap.size := ⟨_, rfl⟩
  rw [← hgr, ← hgb, ← hga] at HX
  cases h1 : potB s0 a1 a2 a3 a4
  · have HE : Hid (mixL s0 a1 a2 a3 a4 t0 b1 b2 b3 b4 id = ⟨⟨#[]⟩, 0, 0, 0, 0, 1⟩) := Lib.hid (by rw [mixL, h1]; rfl)
    have H1 := Lib.hid h1
    clear h1
    have HX := Lib.hid HX
    go_enter Try.func7, Try.ntmps7
    go_upto_region 1 with fail
    rw [← hgr, ← hgb, ← hga]
    clear hgr hgb hga
    generalize ((w.alloc (.cells (potC0 s0 a1 a2 a3 a4) 25)).alloc (.cells (potC0 t0 b1 b2 b3 b4) 25)).alloc (.cells (potC0 ⟨#[]⟩ 0 0 0 0) 25) = wa at HX ⊢
    have CV := potvalid_is H1.out wa z0
    have hc := HX.out.2.2.2.1.cell
    go_wp2_with fail
    refine CV.mono ?_
    rintro r w1 ⟨rfl, hb1⟩
    have HX := Lib.hid (HX.out.next hb1)
    clear CV hc hb1
    have hc := HX.out.2.2.2.2.2.1.cell
    have hf := HX.out.2.2.2.2.2.1.frozen
    go_wp2
    refine bodyPost_ret (v := .tuple #[potV ⟨#[]⟩ 0 0 0 0, .int .i64 1]) (by simp [results, Try.results7, go_sem, hc]) rfl (retM HE.out rfl (below_set5 HX.out.2.2.2.2.2.2 (by have := HX.out.1; have := HX.out.2.1; have := HX.out.2.2.1; omega) _ _ _ _ _))
  cases h2 : potB t0 b1 b2 b3 b4
  · have HE : Hid (mixL s0 a1 a2 a3 a4 t0 b1 b2 b3 b4 id = ⟨⟨#[]⟩, 0, 0, 0, 0, 1⟩) := Lib.hid (by rw [mixL, h1, h2]; rfl)
    have H1 := Lib.hid h1
    clear h1
    have H2 := Lib.hid h2
    clear h2
    have HX := Lib.hid HX
    go_enter Try.func7, Try.ntmps7
    go_upto_region 1 with fail
    rw [← hgr, ← hgb, ← hga]
    clear hgr hgb hga
    generalize ((w.alloc (.cells (potC0 s0 a1 a2 a3 a4) 25)).alloc (.cells (potC0 t0 b1 b2 b3 b4) 25)).alloc (.cells (potC0 ⟨#[]⟩ 0 0 0 0) 25) = wa at HX ⊢
    have CV := potvalid_is H1.out wa z0
    have hc := HX.out.2.2.2.1.cell
    go_wp2_with fail
    refine CV.mono ?_
    rintro r w1 ⟨rfl, hb1⟩
    have HX := Lib.hid (HX.out.next hb1)
    clear CV hc hb1
    have CV := potvalid_is H2.out w1 z1
    have hc := HX.out.2.2.2.2.1.cell
    go_wp2_with fail
    refine CV.mono ?_
    rintro r w2 ⟨rfl, hb2⟩
    have HX := Lib.hid (HX.out.next hb2)
    clear CV hc hb2
    have hc := HX.out.2.2.2.2.2.1.cell
    have hf := HX.out.2.2.2.2.2.1.frozen
    go_wp2
    refine bodyPost_ret (v := .tuple #[potV ⟨#[]⟩ 0 0 0 0, .int .i64 1]) (by simp [results, Try.results7, go_sem, hc]) rfl (retM HE.out rfl (below_set5 HX.out.2.2.2.2.2.2 (by have := HX.out.1; have := HX.out.2.1; have := HX.out.2.2.1; omega) _ _ _ _ _))
  cases h3 : nameB id
  · have HE : Hid (mixL s0 a1 a2 a3 a4 t0 b1 b2 b3 b4 id = ⟨⟨#[]⟩, 0, 0, 0, 0, 2⟩) := Lib.hid (by rw [mixL, h1, h2, h3]; rfl)
    have H1 := Lib.hid h1
    clear h1
    have H2 := Lib.hid h2
    clear h2
    have HX := Lib.hid HX
    go_enter Try.func7, Try.ntmps7
    go_upto_region 1 with fail
    rw [← hgr, ← hgb, ← hga]
    clear hgr hgb hga
    generalize ((w.alloc (.cells (potC0 s0 a1 a2 a3 a4) 25)).alloc (.cells (potC0 t0 b1 b2 b3 b4) 25)).alloc (.cells (potC0 ⟨#[]⟩ 0 0 0 0) 25) = wa at HX ⊢
    have CV := potvalid_is H1.out wa z0
    have hc := HX.out.2.2.2.1.cell
    go_wp2_with fail
    refine CV.mono ?_
    rintro r w1 ⟨rfl, hb1⟩
    have HX := Lib.hid (HX.out.next hb1)
    clear CV hc hb1
    have CV := potvalid_is H2.out w1 z1
    have hc := HX.out.2.2.2.2.1.cell
    go_wp2_with fail
    refine CV.mono ?_
    rintro r w2 ⟨rfl, hb2⟩
    have HX := Lib.hid (HX.out.next hb2)
    clear CV hc hb2
    have hc := HX.out.2.2.2.2.2.1.cell
    have hf := HX.out.2.2.2.2.2.1.frozen
    go_wp2_with ((go_at_call 14; refine (IsName_any _ _ z2).mono ?_; rintro e w' ⟨rfl, rfl⟩))
    refine bodyPost_ret (v := .tuple #[potV ⟨#[]⟩ 0 0 0 0, .int .i64 2]) (by simp [results, Try.results7, go_sem, hc]) rfl (retM HE.out rfl (below_set5 HX.out.2.2.2.2.2.2 (by have := HX.out.1; have := HX.out.2.1; have := HX.out.2.2.1; omega) _ _ _ _ _))
  have q1 := potB_t h1
  have q2 := potB_t h2
  have r1 := inB_t q1.2.1
  have r2 := inB_t q1.2.2.1
  have r3 := inB_t q1.2.2.2.1
  have r4 := inB_t q1.2.2.2.2
  have r5 := inB_t q2.2.1
  have r6 := inB_t q2.2.2.1
  have r7 := inB_t q2.2.2.2.1
  have r8 := inB_t q2.2.2.2.2
  clear q1 q2
  obtain ⟨mn, hmn⟩ : ∃ x, x = if b3 < a3 then b3 else a3 := ⟨_, rfl⟩
  obtain ⟨mx, hmx⟩ : ∃ x, x = if a4 < b4 then b4 else a4 := ⟨_, rfl⟩
  have mn2 : mn = min a3 b3 := by rw [hmn]; split <;> omega
  have mx2 : mx = max a4 b4 := by rw [hmx]; split <;> omega
  obtain ⟨d1, hd1⟩ : ∃ x, x = a1 + b1 := ⟨_, rfl⟩
  obtain ⟨d2, hd2⟩ : ∃ x, x = a2 + b2 := ⟨_, rfl⟩
  have HMN := Lib.hid hmn
  have HMX := Lib.hid hmx
  have HD1 := Lib.hid hd1
  have HD2 := Lib.hid hd2
  cases h4 : potB id d1 d2 mn mx
  · have HE : Hid (mixL s0 a1 a2 a3 a4 t0 b1 b2 b3 b4 id = ⟨⟨#[]⟩, 0, 0, 0, 0, 6⟩) := Lib.hid (by rw [mixL, h1, h2, h3, ← mn2, ← mx2, ← hd1, ← hd2, h4]; rfl)
    clear hmn hmx hd1 hd2 mn2 mx2
    have H1 := Lib.hid h1
    clear h1
    have H2 := Lib.hid h2
    clear h2
    have H4 := Lib.hid h4
    clear h4
    have HX := Lib.hid HX
    go_enter Try.func7, Try.ntmps7
    go_upto_region 1 with fail
    rw [← hgr, ← hgb, ← hga]
    clear hgr hgb hga
    generalize ((w.alloc (.cells (potC0 s0 a1 a2 a3 a4) 25)).alloc (.cells (potC0 t0 b1 b2 b3 b4) 25)).alloc (.cells (potC0 ⟨#[]⟩ 0 0 0 0) 25) = wa at HX ⊢
    have CV := potvalid_is H1.out wa z0
    have hc := HX.out.2.2.2.1.cell
    go_wp2_with fail
    refine CV.mono ?_
    rintro r w1 ⟨rfl, hb1⟩
    have HX := Lib.hid (HX.out.next hb1)
    clear CV hc hb1
    have CV := potvalid_is H2.out w1 z1
    have hc := HX.out.2.2.2.2.1.cell
    go_wp2_with fail
    refine CV.mono ?_
    rintro r w2 ⟨rfl, hb2⟩
    have HX := Lib.hid (HX.out.next hb2)
    clear CV hc hb2
    have hca := HX.out.2.2.2.1.cell
    have hcb := HX.out.2.2.2.2.1.cell
    go_upto_region 6 with ((go_at_call 14; refine (IsName_any _ _ z2).mono ?_; rintro e w' ⟨rfl, rfl⟩))
    rw [← HMN.out, ← HMX.out, ← HD1.out, ← HD2.out]
    clear hca hcb
    have KN := Blk.new w2 25 (potC0 id d1 d2 mn mx)
    have BA := (Below.refl w2.heap.size w2).alloc (Nat.le_refl _) (.cells (potC0 id d1 d2 mn mx) 25)
    have HX := Lib.hid (HX.out.next BA)
    obtain ⟨gn, hgn⟩ : ∃ x, x = w2.heap.size := ⟨_, rfl⟩
    rw [← hgn] at KN ⊢
    clear BA hgn
    generalize w2.alloc (.cells (potC0 id d1 d2 mn mx) 25) = w3 at KN HX ⊢
    have hn := KN.cell
    have KN := Lib.hid KN
    have CV := potvalid_is H4.out w3 z2
    go_wp2_with fail
    refine CV.mono ?_
    rintro r w4 ⟨rfl, hb4⟩
    have HX := Lib.hid (HX.out.next hb4)
    have KN := Lib.hid (KN.out.below hb4 KN.out.lt)
    clear CV hb4 hn
    have hc := HX.out.2.2.2.2.2.1.cell
    have hf := HX.out.2.2.2.2.2.1.frozen
    go_wp2
    refine bodyPost_ret (v := .tuple #[potV ⟨#[]⟩ 0 0 0 0, .int .i64 6]) (by simp [results, Try.results7, go_sem, hc]) rfl (retM HE.out rfl (below_set5 HX.out.2.2.2.2.2.2 (by have := HX.out.1; have := HX.out.2.1; have := HX.out.2.2.1; omega) _ _ _ _ _))
  · have HE : Hid (mixL s0 a1 a2 a3 a4 t0 b1 b2 b3 b4 id = ⟨id, d1, d2, mn, mx, 0⟩) := Lib.hid (by rw [mixL, h1, h2, h3, ← mn2, ← mx2, ← hd1, ← hd2, h4]; rfl)
    clear hmn hmx hd1 hd2 mn2 mx2
    have H1 := Lib.hid h1
    clear h1
    have H2 := Lib.hid h2
    clear h2
    have H4 := Lib.hid h4
    clear h4
    have HX := Lib.hid HX
    go_enter Try.func7, Try.ntmps7
    go_upto_region 1 with fail
    rw [← hgr, ← hgb, ← hga]
    clear hgr hgb hga
    generalize ((w.alloc (.cells (potC0 s0 a1 a2 a3 a4) 25)).alloc (.cells (potC0 t0 b1 b2 b3 b4) 25)).alloc (.cells (potC0 ⟨#[]⟩ 0 0 0 0) 25) = wa at HX ⊢
    have CV := potvalid_is H1.out wa z0
    have hc := HX.out.2.2.2.1.cell
    go_wp2_with fail
    refine CV.mono ?_
    rintro r w1 ⟨rfl, hb1⟩
    have HX := Lib.hid (HX.out.next hb1)
    clear CV hc hb1
    have CV := potvalid_is H2.out w1 z1
    have hc := HX.out.2.2.2.2.1.cell
    go_wp2_with fail
    refine CV.mono ?_
    rintro r w2 ⟨rfl, hb2⟩
    have HX := Lib.hid (HX.out.next hb2)
    clear CV hc hb2
    have hca := HX.out.2.2.2.1.cell
    have hcb := HX.out.2.2.2.2.1.cell
    go_upto_region 6 with ((go_at_call 14; refine (IsName_any _ _ z2).mono ?_; rintro e w' ⟨rfl, rfl⟩))
    rw [← HMN.out, ← HMX.out, ← HD1.out, ← HD2.out]
    clear hca hcb
    have KN := Blk.new w2 25 (potC0 id d1 d2 mn mx)
    have BA := (Below.refl w2.heap.size w2).alloc (Nat.le_refl _) (.cells (potC0 id d1 d2 mn mx) 25)
    have HX := Lib.hid (HX.out.next BA)
    obtain ⟨gn, hgn⟩ : ∃ x, x = w2.heap.size := ⟨_, rfl⟩
    rw [← hgn] at KN ⊢
    clear BA hgn
    generalize w2.alloc (.cells (potC0 id d1 d2 mn mx) 25) = w3 at KN HX ⊢
    have hn := KN.cell
    have KN := Lib.hid KN
    have CV := potvalid_is H4.out w3 z2
    go_wp2_with fail
    refine CV.mono ?_
    rintro r w4 ⟨rfl, hb4⟩
    have HX := Lib.hid (HX.out.next hb4)
    have KN := Lib.hid (KN.out.below hb4 KN.out.lt)
    clear CV hb4 hn
    have hc := HX.out.2.2.2.2.2.1.cell
    have hf := HX.out.2.2.2.2.2.1.frozen
    have hn := KN.out.cell
    go_wp2
    refine bodyPost_ret (v := .tuple #[potV id d1 d2 mn mx, .int .i64 0]) (by simp [results, Try.results7, go_sem, hc]) rfl (retM HE.out rfl (below_set5 HX.out.2.2.2.2.2.2 (by have := HX.out.1; have := HX.out.2.1; have := HX.out.2.2.1; omega) _ _ _ _ _))
/-- a pot that is laid -/
theorem Blk.set5 {w : World} {g : Nat} (h : Blk w g 25 (potC0 ⟨#[]⟩ 0 0 0 0)) (x0 : ByteArray) (x1 x2 x3 x4 : Int) :
    Blk (((((w.setCell ⟨g, 0, none⟩ (.string x0)).setCell ⟨g, 1, none⟩ (.int .i64 x1)).setCell ⟨g, 2, none⟩ (.int .i64 x2)).setCell ⟨g, 3, none⟩ (.int .i64 x3)).setCell ⟨g, 4, none⟩ (.int .i64 x4)) g 25 (potC0 x0 x1 x2 x3 x4) := by
  have := ((((h.set_ 0 (.string x0)).set_ 1 (.int .i64 x1)).set_ 2 (.int .i64 x2)).set_ 3 (.int .i64 x3)).set_ 4 (.int .i64 x4)
  simpa using this
theorem Box3.far {w wa : World} {ga gb gr : Nat} {ca cb cr : Array Value} (h : Box3 w wa ga gb gr ca cb cr) {p : Addr} (hp : gr < p.block) (u : Value) : Box3 w (wa.setCell p u) ga gb gr ca cb cr := by
  obtain ⟨h1, h2, h3, h4, h5, h6, h7⟩ := h
  exact ⟨h1, h2, h3, h4.far (by omega) u, h5.far (by omega) u, h6.far (by omega) u, h7.setCell (by omega) u⟩
theorem Box3.far5 {w wa : World} {ga gb gr gn : Nat} {ca cb cr : Array Value} (h : Box3 w wa ga gb gr ca cb cr) (hp : gr < gn) (x0 x1 x2 x3 x4 : Value) :
    Box3 w (((((wa.setCell ⟨gn, 0, none⟩ x0).setCell ⟨gn, 1, none⟩ x1).setCell ⟨gn, 2, none⟩ x2).setCell ⟨gn, 3, none⟩ x3).setCell ⟨gn, 4, none⟩ x4) ga gb gr ca cb cr :=
  ((((h.far (p := ⟨gn, 0, none⟩) hp x0).far (p := ⟨gn, 1, none⟩) hp x1).far (p := ⟨gn, 2, none⟩) hp x2).far (p := ⟨gn, 3, none⟩) hp x3).far (p := ⟨gn, 4, none⟩) hp x4
theorem l00Min_any (a b : Int) (w : World) :
    Calls Try.prog 11 #[.int .i64 a, .int .i64 b] w fun e w' => e = .returned (.int .i64 (min a b)) ∧ w = w' := by
  by_cases h : a < b
  all_goals
    go_enter Try.func11, Try.ntmps11
    go_wp2
    go_ret
    exact ⟨ret_int (by omega), rfl⟩
/-- what the loads read -/
def SM (ga gb : Nat) (ca cb : Array Value) (w : World) : Prop := (∀ i, w.cell? ⟨ga, i, none⟩ = ca[i]?) ∧ (∀ i, w.cell? ⟨gb, i, none⟩ = cb[i]?) ∧ True
theorem Box3.drew {w wa : World} {ga gb gr : Nat} {ca cb cr : Array Value} (h : Box3 w wa ga gb gr ca cb cr) : Box3 w wa.drew ga gb gr ca cb cr := by
  obtain ⟨h1, h2, h3, h4, h5, h6, h7⟩ := h
  exact ⟨h1, h2, h3, h4, h5, h6, below_drew h7⟩
set_option maxRecDepth 100000 in
set_option maxHeartbeats 4000000 in
theorem MixPots_s (w : World) (z0 : s0.size ≤ maxLen) (z1 : t0.size ≤ maxLen) (z2 : id.size ≤ maxLen) :
    Calls Try.prog 5 #[potV s0 a1 a2 a3 a4, potV t0 b1 b2 b3 b4, .string id] w (RetM w (mixL s0 a1 a2 a3 a4 t0 b1 b2 b3 b4 id)) := by
  have HX := box3 w (potC0 s0 a1 a2 a3 a4) (potC0 t0 b1 b2 b3 b4) (potC0 ⟨#[]⟩ 0 0 0 0)
  obtain ⟨gb, hgb⟩ : ∃ x, x = w.heap.size + 1 := ⟨_, rfl⟩
  obtain ⟨gr, hgr⟩ : ∃ x, x = w.heap.size + 1 + 1 := ⟨_, rfl⟩
  obtain ⟨ga, hga⟩ : ∃ x, x = w.heap.size := ⟨_, rfl⟩
  rw [← hgr, ← hgb, ← hga] at HX
  cases h1 : potB s0 a1 a2 a3 a4
  · have HE : Hid (mixL s0 a1 a2 a3 a4 t0 b1 b2 b3 b4 id = ⟨⟨#[]⟩, 0, 0, 0, 0, 1⟩) := Lib.hid (by rw [mixL, h1]; rfl)
    have H1 := Lib.hid h1
    clear h1
    have HX := Lib.hid HX
    go_enter Try.func5, Try.ntmps5
    go_upto_region 1 with fail
    rw [← hgr, ← hgb, ← hga]
    clear hgr hgb hga
    generalize ((w.alloc (.cells (potC0 s0 a1 a2 a3 a4) 25)).alloc (.cells (potC0 t0 b1 b2 b3 b4) 25)).alloc (.cells (potC0 ⟨#[]⟩ 0 0 0 0) 25) = wa at HX ⊢
    have CV := potone_is H1.out wa z0 HX.out.2.2.2.1
    go_wp2_with fail
    refine CV.mono ?_
    rintro r w' ⟨rfl, rfl⟩
    clear CV
    have hc := HX.out.2.2.2.2.2.1.cell
    have hf := HX.out.2.2.2.2.2.1.frozen
    go_wp2
    refine bodyPost_ret (v := .tuple #[potV ⟨#[]⟩ 0 0 0 0, .int .i64 1]) (by simp [results, Try.results5, go_sem, hc]) rfl (retM HE.out rfl (below_set5 HX.out.2.2.2.2.2.2 (by have := HX.out.1; have := HX.out.2.1; have := HX.out.2.2.1; omega) _ _ _ _ _))
  cases h2 : potB t0 b1 b2 b3 b4
  · have HE : Hid (mixL s0 a1 a2 a3 a4 t0 b1 b2 b3 b4 id = ⟨⟨#[]⟩, 0, 0, 0, 0, 1⟩) := Lib.hid (by rw [mixL, h1, h2]; rfl)
    have H1 := Lib.hid h1
    clear h1
    have H2 := Lib.hid h2
    clear h2
    have HX := Lib.hid HX
    go_enter Try.func5, Try.ntmps5
    go_upto_region 1 with fail
    rw [← hgr, ← hgb, ← hga]
    clear hgr hgb hga
    generalize ((w.alloc (.cells (potC0 s0 a1 a2 a3 a4) 25)).alloc (.cells (potC0 t0 b1 b2 b3 b4) 25)).alloc (.cells (potC0 ⟨#[]⟩ 0 0 0 0) 25) = wa at HX ⊢
    have CV := potone_is H1.out wa z0 HX.out.2.2.2.1
    go_wp2_with fail
    refine CV.mono ?_
    rintro r w' ⟨rfl, rfl⟩
    clear CV
    have CV := potone_is H2.out wa z1 HX.out.2.2.2.2.1
    go_wp2_with fail
    refine CV.mono ?_
    rintro r w' ⟨rfl, rfl⟩
    clear CV
    have hc := HX.out.2.2.2.2.2.1.cell
    have hf := HX.out.2.2.2.2.2.1.frozen
    go_wp2
    refine bodyPost_ret (v := .tuple #[potV ⟨#[]⟩ 0 0 0 0, .int .i64 1]) (by simp [results, Try.results5, go_sem, hc]) rfl (retM HE.out rfl (below_set5 HX.out.2.2.2.2.2.2 (by have := HX.out.1; have := HX.out.2.1; have := HX.out.2.2.1; omega) _ _ _ _ _))
  cases h3 : nameB id
  · have HE : Hid (mixL s0 a1 a2 a3 a4 t0 b1 b2 b3 b4 id = ⟨⟨#[]⟩, 0, 0, 0, 0, 2⟩) := Lib.hid (by rw [mixL, h1, h2, h3]; rfl)
    have H1 := Lib.hid h1
    clear h1
    have H2 := Lib.hid h2
    clear h2
    have HX := Lib.hid HX
    go_enter Try.func5, Try.ntmps5
    go_upto_region 1 with fail
    rw [← hgr, ← hgb, ← hga]
    clear hgr hgb hga
    generalize ((w.alloc (.cells (potC0 s0 a1 a2 a3 a4) 25)).alloc (.cells (potC0 t0 b1 b2 b3 b4) 25)).alloc (.cells (potC0 ⟨#[]⟩ 0 0 0 0) 25) = wa at HX ⊢
    have CV := potone_is H1.out wa z0 HX.out.2.2.2.1
    go_wp2_with fail
    refine CV.mono ?_
    rintro r w' ⟨rfl, rfl⟩
    clear CV
    have CV := potone_is H2.out wa z1 HX.out.2.2.2.2.1
    go_wp2_with fail
    refine CV.mono ?_
    rintro r w' ⟨rfl, rfl⟩
    clear CV
    have hc := HX.out.2.2.2.2.2.1.cell
    have hf := HX.out.2.2.2.2.2.1.frozen
    go_wp2_with ((go_at_call 10; refine (l01Name_any _ _ z2).mono ?_; rintro e w' ⟨rfl, rfl⟩))
    refine bodyPost_ret (v := .tuple #[potV ⟨#[]⟩ 0 0 0 0, .int .i64 2]) (by simp [results, Try.results5, go_sem, hc]) rfl (retM HE.out rfl (below_set5 HX.out.2.2.2.2.2.2 (by have := HX.out.1; have := HX.out.2.1; have := HX.out.2.2.1; omega) _ _ _ _ _))
  have q1 := potB_t h1
  have q2 := potB_t h2
  have r1 := inB_t q1.2.1
  have r2 := inB_t q1.2.2.1
  have r3 := inB_t q1.2.2.2.1
  have r4 := inB_t q1.2.2.2.2
  have r5 := inB_t q2.2.1
  have r6 := inB_t q2.2.2.1
  have r7 := inB_t q2.2.2.2.1
  have r8 := inB_t q2.2.2.2.2
  clear q1 q2
  obtain ⟨mn, hmn⟩ : ∃ x, x = min a3 b3 := ⟨_, rfl⟩
  obtain ⟨mx, hmx⟩ : ∃ x, x = max a4 b4 := ⟨_, rfl⟩
  have mn2 := hmn
  have mx2 := hmx
  obtain ⟨d1, hd1⟩ : ∃ x, x = a1 + b1 := ⟨_, rfl⟩
  obtain ⟨d2, hd2⟩ : ∃ x, x = a2 + b2 := ⟨_, rfl⟩
  have HMN := Lib.hid hmn
  have HMX := Lib.hid hmx
  have HD1 := Lib.hid hd1
  have HD2 := Lib.hid hd2
  cases h4 : potB id d1 d2 mn mx
  · have HE : Hid (mixL s0 a1 a2 a3 a4 t0 b1 b2 b3 b4 id = ⟨⟨#[]⟩, 0, 0, 0, 0, 6⟩) := Lib.hid (by rw [mixL, h1, h2, h3, ← mn2, ← mx2, ← hd1, ← hd2, h4]; rfl)
    clear hmn hmx hd1 hd2 mn2 mx2
    have H1 := Lib.hid h1
    clear h1
    have H2 := Lib.hid h2
    clear h2
    have H4 := Lib.hid h4
    clear h4
    have HX := Lib.hid HX
    go_enter Try.func5, Try.ntmps5
    go_upto_region 1 with fail
    rw [← hgr, ← hgb, ← hga]
    clear hgr hgb hga
    generalize ((w.alloc (.cells (potC0 s0 a1 a2 a3 a4) 25)).alloc (.cells (potC0 t0 b1 b2 b3 b4) 25)).alloc (.cells (potC0 ⟨#[]⟩ 0 0 0 0) 25) = wa at HX ⊢
    have CV := potone_is H1.out wa z0 HX.out.2.2.2.1
    go_wp2_with fail
    refine CV.mono ?_
    rintro r w' ⟨rfl, rfl⟩
    clear CV
    have CV := potone_is H2.out wa z1 HX.out.2.2.2.2.1
    go_wp2_with fail
    refine CV.mono ?_
    rintro r w' ⟨rfl, rfl⟩
    clear CV
    go_upto_region 5 with ((go_at_call 10; refine (l01Name_any _ _ z2).mono ?_; rintro e w' ⟨rfl, rfl⟩))
    have ws1 : IntKind.i64.wrap (a1 + b1) = a1 + b1 := IntWalk.i64_in _ (by omega)
    have ws2 : IntKind.i64.wrap (a2 + b2) = a2 + b2 := IntWalk.i64_in _ (by omega)
    refine wp_region_S (SM ga gb (potC0 s0 a1 a2 a3 a4) (potC0 t0 b1 b2 b3 b4)) 23 (by kernel_rfl) ?_
    have HX := Lib.hid HX.out.drew
    generalize wa.drew = wd at HX ⊢
    have HS : SM ga gb (potC0 s0 a1 a2 a3 a4) (potC0 t0 b1 b2 b3 b4) wd := ⟨HX.out.2.2.2.1.cell, HX.out.2.2.2.2.1.cell, trivial⟩
    have HXD := HX
    (refine wpAnyS_take0 0 ?_ rfl (by kernel_rfl) (by kernel_rfl) (by kernel_rfl) (by kernel_rfl) (fun _ _ _ h => h) (by rfl) ?_ (fun _ => HS) ?_; rotate_left; (· (intro w; go_simp; (try with_reducible rfl))); try simp only [Act.put, List.setIfInBounds_toArray, List.set_cons_zero, List.set_cons_succ])
    (refine wpAnyS_take0 1 ?_ rfl (by kernel_rfl) (by kernel_rfl) (by kernel_rfl) (by kernel_rfl) (fun _ _ _ h => h) (by rfl) ?_ (fun _ => HS) ?_; rotate_left; (· (intro w; go_simp; (try with_reducible rfl))); try simp only [Act.put, List.setIfInBounds_toArray, List.set_cons_zero, List.set_cons_succ])
    (refine wpAnyS_take 2 ?_ rfl (by kernel_rfl) (by kernel_rfl) (by kernel_rfl) (by kernel_rfl) (by kernel_rfl) (by kernel_rfl) (fun _ _ _ h => h) (by rfl) ?_ HS ?_; rotate_left; (· (intro w hSw; obtain ⟨s1, s2, s3⟩ := hSw; go_simp; (try with_reducible rfl))); try simp only [Act.put, List.setIfInBounds_toArray, List.set_cons_zero, List.set_cons_succ])
    (refine wpAnyS_take0 3 ?_ rfl (by kernel_rfl) (by kernel_rfl) (by kernel_rfl) (by kernel_rfl) (fun _ _ _ h => h) (by rfl) ?_ (fun _ => HS) ?_; rotate_left; (· (intro w; go_simp; (try with_reducible rfl))); try simp only [Act.put, List.setIfInBounds_toArray, List.set_cons_zero, List.set_cons_succ])
    (refine wpAnyS_take 4 ?_ rfl (by kernel_rfl) (by kernel_rfl) (by kernel_rfl) (by kernel_rfl) (by kernel_rfl) (by kernel_rfl) (fun _ _ _ h => h) (by rfl) ?_ HS ?_; rotate_left; (· (intro w hSw; obtain ⟨s1, s2, s3⟩ := hSw; go_simp; (try with_reducible rfl))); try simp only [Act.put, List.setIfInBounds_toArray, List.set_cons_zero, List.set_cons_succ])
    (refine wpAnyS_take0 5 ?_ rfl (by kernel_rfl) (by kernel_rfl) (by kernel_rfl) (by kernel_rfl) (fun _ _ _ h => h) (by rfl) ?_ (fun _ => HS) ?_; rotate_left; (· (intro w; go_simp; (try with_reducible rfl))); try simp only [Act.put, List.setIfInBounds_toArray, List.set_cons_zero, List.set_cons_succ])
    (refine wpAnyS_take0 6 ?_ rfl (by kernel_rfl) (by kernel_rfl) (by kernel_rfl) (by kernel_rfl) (fun _ _ _ h => h) (by rfl) ?_ (fun _ => HS) ?_; rotate_left; (· (intro w; go_simp; (try with_reducible rfl))); try simp only [Act.put, List.setIfInBounds_toArray, List.set_cons_zero, List.set_cons_succ])
    (refine wpAnyS_take 7 ?_ rfl (by kernel_rfl) (by kernel_rfl) (by kernel_rfl) (by kernel_rfl) (by kernel_rfl) (by kernel_rfl) (fun _ _ _ h => h) (by rfl) ?_ HS ?_; rotate_left; (· (intro w hSw; obtain ⟨s1, s2, s3⟩ := hSw; go_simp; (try with_reducible rfl))); try simp only [Act.put, List.setIfInBounds_toArray, List.set_cons_zero, List.set_cons_succ])
    (refine wpAnyS_take0 8 ?_ rfl (by kernel_rfl) (by kernel_rfl) (by kernel_rfl) (by kernel_rfl) (fun _ _ _ h => h) (by rfl) ?_ (fun _ => HS) ?_; rotate_left; (· (intro w; go_simp; (try with_reducible rfl))); try simp only [Act.put, List.setIfInBounds_toArray, List.set_cons_zero, List.set_cons_succ])
    (refine wpAnyS_take 9 ?_ rfl (by kernel_rfl) (by kernel_rfl) (by kernel_rfl) (by kernel_rfl) (by kernel_rfl) (by kernel_rfl) (fun _ _ _ h => h) (by rfl) ?_ HS ?_; rotate_left; (· (intro w hSw; obtain ⟨s1, s2, s3⟩ := hSw; go_simp; (try with_reducible rfl))); try simp only [Act.put, List.setIfInBounds_toArray, List.set_cons_zero, List.set_cons_succ])
    (refine wpAnyS_take0 10 ?_ rfl (by kernel_rfl) (by kernel_rfl) (by kernel_rfl) (by kernel_rfl) (fun _ _ _ h => h) (by rfl) ?_ (fun _ => HS) ?_; rotate_left; (· (intro w; go_simp; (try with_reducible rfl))); try simp only [Act.put, List.setIfInBounds_toArray, List.set_cons_zero, List.set_cons_succ])
    (refine wpAnyS_take0 11 ?_ rfl (by kernel_rfl) (by kernel_rfl) (by kernel_rfl) (by kernel_rfl) (fun _ _ _ h => h) (by rfl) ?_ (fun _ => HS) ?_; rotate_left; (· (intro w; go_simp; (try with_reducible rfl))); try simp only [Act.put, List.setIfInBounds_toArray, List.set_cons_zero, List.set_cons_succ])
    (refine wpAnyS_take 12 ?_ rfl (by kernel_rfl) (by kernel_rfl) (by kernel_rfl) (by kernel_rfl) (by kernel_rfl) (by kernel_rfl) (fun _ _ _ h => h) (by rfl) ?_ HS ?_; rotate_left; (· (intro w hSw; obtain ⟨s1, s2, s3⟩ := hSw; go_simp; (try with_reducible rfl))); try simp only [Act.put, List.setIfInBounds_toArray, List.set_cons_zero, List.set_cons_succ])
    (refine wpAnyS_take0 13 ?_ rfl (by kernel_rfl) (by kernel_rfl) (by kernel_rfl) (by kernel_rfl) (fun _ _ _ h => h) (by rfl) ?_ (fun _ => HS) ?_; rotate_left; (· (intro w; go_simp; (try with_reducible rfl))); try simp only [Act.put, List.setIfInBounds_toArray, List.set_cons_zero, List.set_cons_succ])
    (refine wpAnyS_take 14 ?_ rfl (by kernel_rfl) (by kernel_rfl) (by kernel_rfl) (by kernel_rfl) (by kernel_rfl) (by kernel_rfl) (fun _ _ _ h => h) (by rfl) ?_ HS ?_; rotate_left; (· (intro w hSw; obtain ⟨s1, s2, s3⟩ := hSw; go_simp; (try with_reducible rfl))); try simp only [Act.put, List.setIfInBounds_toArray, List.set_cons_zero, List.set_cons_succ])
    (refine wpAnyS_take0 16 ?_ rfl (by kernel_rfl) (by kernel_rfl) (by kernel_rfl) (by kernel_rfl) (fun _ _ _ h => h) (by rfl) ?_ (fun _ => HS) ?_; rotate_left; (· (intro w; go_simp; (try with_reducible rfl))); try simp only [Act.put, List.setIfInBounds_toArray, List.set_cons_zero, List.set_cons_succ])
    (refine wpAnyS_take 17 ?_ rfl (by kernel_rfl) (by kernel_rfl) (by kernel_rfl) (by kernel_rfl) (by kernel_rfl) (by kernel_rfl) (fun _ _ _ h => h) (by rfl) ?_ HS ?_; rotate_left; (· (intro w hSw; obtain ⟨s1, s2, s3⟩ := hSw; go_simp; (try with_reducible rfl))); try simp only [Act.put, List.setIfInBounds_toArray, List.set_cons_zero, List.set_cons_succ])
    (refine wpAnyS_take0 18 ?_ rfl (by kernel_rfl) (by kernel_rfl) (by kernel_rfl) (by kernel_rfl) (fun _ _ _ h => h) (by rfl) ?_ (fun _ => HS) ?_; rotate_left; (· (intro w; go_simp; (try with_reducible rfl))); try simp only [Act.put, List.setIfInBounds_toArray, List.set_cons_zero, List.set_cons_succ])
    (refine wpAnyS_take 19 ?_ rfl (by kernel_rfl) (by kernel_rfl) (by kernel_rfl) (by kernel_rfl) (by kernel_rfl) (by kernel_rfl) (fun _ _ _ h => h) (by rfl) ?_ HS ?_; rotate_left; (· (intro w hSw; obtain ⟨s1, s2, s3⟩ := hSw; go_simp; (try with_reducible rfl))); try simp only [Act.put, List.setIfInBounds_toArray, List.set_cons_zero, List.set_cons_succ])
    refine wpAnyS_two 15 22 rfl rfl (by kernel_rfl) (by rfl) (by rfl) ?_ ?_
    · intro K hK
      go_simp
      refine (l00Min_any _ _ _).mono ?_
      rintro r w' ⟨rfl, rfl⟩
      try simp only [Act.put, List.setIfInBounds_toArray, List.set_cons_zero, List.set_cons_succ]
      refine hK _ _ (fun _ => HS) ?_
      clear hK
      refine wpAnyS_two 20 22 rfl rfl (by kernel_rfl) (by rfl) (by rfl) ?_ ?_
      · intro K hK
        go_simp
        refine (l00Max_any _ _ _).mono ?_
        rintro r w' ⟨rfl, rfl⟩
        try simp only [Act.put, List.setIfInBounds_toArray, List.set_cons_zero, List.set_cons_succ]
        refine hK _ _ (fun _ => HS) ?_
        clear hK
        (refine wpAnyS_take0 21 ?_ rfl (by kernel_rfl) (by kernel_rfl) (by kernel_rfl) (by kernel_rfl) (fun _ _ _ h => h) (by rfl) ?_ (fun _ => HS) ?_; rotate_left; (· (intro w; go_simp; (try with_reducible rfl))); try simp only [Act.put, List.setIfInBounds_toArray, List.set_cons_zero, List.set_cons_succ])
        refine wpAnyS_one 22 rfl (by kernel_rfl) (by rfl) ?_
        intro K hK
        go_simp
        have KN := Blk.new wd 25 (potC0 ⟨#[]⟩ 0 0 0 0)
        have HX := Lib.hid (HX.out.next ((Below.refl wd.heap.size wd).alloc (Nat.le_refl _) (.cells (potC0 ⟨#[]⟩ 0 0 0 0) 25)))
        have gnr : gr < wd.heap.size := HXD.out.2.2.2.2.2.1.lt
        obtain ⟨gn, hgn⟩ : ∃ x, x = wd.heap.size := ⟨_, rfl⟩
        rw [← hgn] at KN gnr ⊢
        have KN := Lib.hid KN
        clear hgn
        generalize wd.alloc (.cells (potC0 ⟨#[]⟩ 0 0 0 0) 25) = we at KN HX ⊢
        have HS : SM ga gb (potC0 s0 a1 a2 a3 a4) (potC0 t0 b1 b2 b3 b4) we := ⟨HX.out.2.2.2.1.cell, HX.out.2.2.2.2.1.cell, trivial⟩
        try simp only [Act.put, List.setIfInBounds_toArray, List.set_cons_zero, List.set_cons_succ]
        refine hK _ _ (fun _ => HS) ?_
        clear hK
        rw [← HMN.out, ← HMX.out, ← HD1.out, ← HD2.out]
        refine wpAnyS_one 23 rfl (by kernel_rfl) (by rfl) ?_
        intro K hK
        have hn := KN.out.cell
        have hnf := KN.out.frozen
        go_simp
        have KN := Lib.hid (KN.out.set5 id d1 d2 mn mx)
        have HX := Lib.hid (HX.out.far5 gnr (.string id) (.int .i64 d1) (.int .i64 d2) (.int .i64 mn) (.int .i64 mx))
        refine hK _ _ (fun h => absurd h (by decide +kernel)) ?_
        clear hK hn hnf HS
        generalize (((((we.setCell ⟨gn, 0, none⟩ (.string id)).setCell ⟨gn, 1, none⟩ (.int .i64 d1)).setCell ⟨gn, 2, none⟩ (.int .i64 d2)).setCell ⟨gn, 3, none⟩ (.int .i64 mn)).setCell ⟨gn, 4, none⟩ (.int .i64 mx)) = w3 at KN HX ⊢
        refine wpAnyS_done (by kernel_rfl) ?_
        have CV := potone_is H4.out w3 z2 KN.out
        go_wp2_with fail
        refine CV.mono ?_
        rintro r w' ⟨rfl, rfl⟩
        clear CV
        have hc := HX.out.2.2.2.2.2.1.cell
        have hf := HX.out.2.2.2.2.2.1.frozen
        go_wp2
        refine bodyPost_ret (v := .tuple #[potV ⟨#[]⟩ 0 0 0 0, .int .i64 6]) (by simp [results, Try.results5, go_sem, hc]) rfl (retM HE.out rfl (below_set5 HX.out.2.2.2.2.2.2 (by have := HX.out.1; have := HX.out.2.1; have := HX.out.2.2.1; omega) _ _ _ _ _))
      · intro K hK
        go_simp
        have KN := Blk.new wd 25 (potC0 ⟨#[]⟩ 0 0 0 0)
        have HX := Lib.hid (HX.out.next ((Below.refl wd.heap.size wd).alloc (Nat.le_refl _) (.cells (potC0 ⟨#[]⟩ 0 0 0 0) 25)))
        have gnr : gr < wd.heap.size := HXD.out.2.2.2.2.2.1.lt
        obtain ⟨gn, hgn⟩ : ∃ x, x = wd.heap.size := ⟨_, rfl⟩
        rw [← hgn] at KN gnr ⊢
        have KN := Lib.hid KN
        clear hgn
        generalize wd.alloc (.cells (potC0 ⟨#[]⟩ 0 0 0 0) 25) = we at KN HX ⊢
        have HS : SM ga gb (potC0 s0 a1 a2 a3 a4) (potC0 t0 b1 b2 b3 b4) we := ⟨HX.out.2.2.2.1.cell, HX.out.2.2.2.2.1.cell, trivial⟩
        try simp only [Act.put, List.setIfInBounds_toArray, List.set_cons_zero, List.set_cons_succ]
        refine hK _ _ (fun _ => HS) ?_
        clear hK
        refine wpAnyS_one 20 rfl (by kernel_rfl) (by rfl) ?_
        intro K hK
        go_simp
        refine (l00Max_any _ _ _).mono ?_
        rintro r w' ⟨rfl, rfl⟩
        try simp only [Act.put, List.setIfInBounds_toArray, List.set_cons_zero, List.set_cons_succ]
        refine hK _ _ (fun _ => HS) ?_
        clear hK
        (refine wpAnyS_take0 21 ?_ rfl (by kernel_rfl) (by kernel_rfl) (by kernel_rfl) (by kernel_rfl) (fun _ _ _ h => h) (by rfl) ?_ (fun _ => HS) ?_; rotate_left; (· (intro w; go_simp; (try with_reducible rfl))); try simp only [Act.put, List.setIfInBounds_toArray, List.set_cons_zero, List.set_cons_succ])
        rw [← HMN.out, ← HMX.out, ← HD1.out, ← HD2.out]
        refine wpAnyS_one 23 rfl (by kernel_rfl) (by rfl) ?_
        intro K hK
        have hn := KN.out.cell
        have hnf := KN.out.frozen
        go_simp
        have KN := Lib.hid (KN.out.set5 id d1 d2 mn mx)
        have HX := Lib.hid (HX.out.far5 gnr (.string id) (.int .i64 d1) (.int .i64 d2) (.int .i64 mn) (.int .i64 mx))
        refine hK _ _ (fun h => absurd h (by decide +kernel)) ?_
        clear hK hn hnf HS
        generalize (((((we.setCell ⟨gn, 0, none⟩ (.string id)).setCell ⟨gn, 1, none⟩ (.int .i64 d1)).setCell ⟨gn, 2, none⟩ (.int .i64 d2)).setCell ⟨gn, 3, none⟩ (.int .i64 mn)).setCell ⟨gn, 4, none⟩ (.int .i64 mx)) = w3 at KN HX ⊢
        refine wpAnyS_done (by kernel_rfl) ?_
        have CV := potone_is H4.out w3 z2 KN.out
        go_wp2_with fail
        refine CV.mono ?_
        rintro r w' ⟨rfl, rfl⟩
        clear CV
        have hc := HX.out.2.2.2.2.2.1.cell
        have hf := HX.out.2.2.2.2.2.1.frozen
        go_wp2
        refine bodyPost_ret (v := .tuple #[potV ⟨#[]⟩ 0 0 0 0, .int .i64 6]) (by simp [results, Try.results5, go_sem, hc]) rfl (retM HE.out rfl (below_set5 HX.out.2.2.2.2.2.2 (by have := HX.out.1; have := HX.out.2.1; have := HX.out.2.2.1; omega) _ _ _ _ _))
    · intro K hK
      go_simp
      have KN := Blk.new wd 25 (potC0 ⟨#[]⟩ 0 0 0 0)
      have HX := Lib.hid (HX.out.next ((Below.refl wd.heap.size wd).alloc (Nat.le_refl _) (.cells (potC0 ⟨#[]⟩ 0 0 0 0) 25)))
      have gnr : gr < wd.heap.size := HXD.out.2.2.2.2.2.1.lt
      obtain ⟨gn, hgn⟩ : ∃ x, x = wd.heap.size := ⟨_, rfl⟩
      rw [← hgn] at KN gnr ⊢
      have KN := Lib.hid KN
      clear hgn
      generalize wd.alloc (.cells (potC0 ⟨#[]⟩ 0 0 0 0) 25) = we at KN HX ⊢
      have HS : SM ga gb (potC0 s0 a1 a2 a3 a4) (potC0 t0 b1 b2 b3 b4) we := ⟨HX.out.2.2.2.1.cell, HX.out.2.2.2.2.1.cell, trivial⟩
      try simp only [Act.put, List.setIfInBounds_toArray, List.set_cons_zero, List.set_cons_succ]
      refine hK _ _ (fun _ => HS) ?_
      clear hK
      refine wpAnyS_one 15 rfl (by kernel_rfl) (by rfl) ?_
      intro K hK
      go_simp
      refine (l00Min_any _ _ _).mono ?_
      rintro r w' ⟨rfl, rfl⟩
      try simp only [Act.put, List.setIfInBounds_toArray, List.set_cons_zero, List.set_cons_succ]
      refine hK _ _ (fun _ => HS) ?_
      clear hK
      refine wpAnyS_one 20 rfl (by kernel_rfl) (by rfl) ?_
      intro K hK
      go_simp
      refine (l00Max_any _ _ _).mono ?_
      rintro r w' ⟨rfl, rfl⟩
      try simp only [Act.put, List.setIfInBounds_toArray, List.set_cons_zero, List.set_cons_succ]
      refine hK _ _ (fun _ => HS) ?_
      clear hK
      (refine wpAnyS_take0 21 ?_ rfl (by kernel_rfl) (by kernel_rfl) (by kernel_rfl) (by kernel_rfl) (fun _ _ _ h => h) (by rfl) ?_ (fun _ => HS) ?_; rotate_left; (· (intro w; go_simp; (try with_reducible rfl))); try simp only [Act.put, List.setIfInBounds_toArray, List.set_cons_zero, List.set_cons_succ])
      rw [← HMN.out, ← HMX.out, ← HD1.out, ← HD2.out]
      refine wpAnyS_one 23 rfl (by kernel_rfl) (by rfl) ?_
      intro K hK
      have hn := KN.out.cell
      have hnf := KN.out.frozen
      go_simp
      have KN := Lib.hid (KN.out.set5 id d1 d2 mn mx)
      have HX := Lib.hid (HX.out.far5 gnr (.string id) (.int .i64 d1) (.int .i64 d2) (.int .i64 mn) (.int .i64 mx))
      refine hK _ _ (fun h => absurd h (by decide +kernel)) ?_
      clear hK hn hnf HS
      generalize (((((we.setCell ⟨gn, 0, none⟩ (.string id)).setCell ⟨gn, 1, none⟩ (.int .i64 d1)).setCell ⟨gn, 2, none⟩ (.int .i64 d2)).setCell ⟨gn, 3, none⟩ (.int .i64 mn)).setCell ⟨gn, 4, none⟩ (.int .i64 mx)) = w3 at KN HX ⊢
      refine wpAnyS_done (by kernel_rfl) ?_
      have CV := potone_is H4.out w3 z2 KN.out
      go_wp2_with fail
      refine CV.mono ?_
      rintro r w' ⟨rfl, rfl⟩
      clear CV
      have hc := HX.out.2.2.2.2.2.1.cell
      have hf := HX.out.2.2.2.2.2.1.frozen
      go_wp2
      refine bodyPost_ret (v := .tuple #[potV ⟨#[]⟩ 0 0 0 0, .int .i64 6]) (by simp [results, Try.results5, go_sem, hc]) rfl (retM HE.out rfl (below_set5 HX.out.2.2.2.2.2.2 (by have := HX.out.1; have := HX.out.2.1; have := HX.out.2.2.1; omega) _ _ _ _ _))
  · have HE : Hid (mixL s0 a1 a2 a3 a4 t0 b1 b2 b3 b4 id = ⟨id, d1, d2, mn, mx, 0⟩) := Lib.hid (by rw [mixL, h1, h2, h3, ← mn2, ← mx2, ← hd1, ← hd2, h4]; rfl)
    clear hmn hmx hd1 hd2 mn2 mx2
    have H1 := Lib.hid h1
    clear h1
    have H2 := Lib.hid h2
    clear h2
    have H4 := Lib.hid h4
    clear h4
    have HX := Lib.hid HX
    go_enter Try.func5, Try.ntmps5
    go_upto_region 1 with fail
    rw [← hgr, ← hgb, ← hga]
    clear hgr hgb hga
    generalize ((w.alloc (.cells (potC0 s0 a1 a2 a3 a4) 25)).alloc (.cells (potC0 t0 b1 b2 b3 b4) 25)).alloc (.cells (potC0 ⟨#[]⟩ 0 0 0 0) 25) = wa at HX ⊢
    have CV := potone_is H1.out wa z0 HX.out.2.2.2.1
    go_wp2_with fail
    refine CV.mono ?_
    rintro r w' ⟨rfl, rfl⟩
    clear CV
    have CV := potone_is H2.out wa z1 HX.out.2.2.2.2.1
    go_wp2_with fail
    refine CV.mono ?_
    rintro r w' ⟨rfl, rfl⟩
    clear CV
    go_upto_region 5 with ((go_at_call 10; refine (l01Name_any _ _ z2).mono ?_; rintro e w' ⟨rfl, rfl⟩))
    have ws1 : IntKind.i64.wrap (a1 + b1) = a1 + b1 := IntWalk.i64_in _ (by omega)
    have ws2 : IntKind.i64.wrap (a2 + b2) = a2 + b2 := IntWalk.i64_in _ (by omega)
    refine wp_region_S (SM ga gb (potC0 s0 a1 a2 a3 a4) (potC0 t0 b1 b2 b3 b4)) 23 (by kernel_rfl) ?_
    have HX := Lib.hid HX.out.drew
    generalize wa.drew = wd at HX ⊢
    have HS : SM ga gb (potC0 s0 a1 a2 a3 a4) (potC0 t0 b1 b2 b3 b4) wd := ⟨HX.out.2.2.2.1.cell, HX.out.2.2.2.2.1.cell, trivial⟩
    have HXD := HX
    (refine wpAnyS_take0 0 ?_ rfl (by kernel_rfl) (by kernel_rfl) (by kernel_rfl) (by kernel_rfl) (fun _ _ _ h => h) (by rfl) ?_ (fun _ => HS) ?_; rotate_left; (· (intro w; go_simp; (try with_reducible rfl))); try simp only [Act.put, List.setIfInBounds_toArray, List.set_cons_zero, List.set_cons_succ])
    (refine wpAnyS_take0 1 ?_ rfl (by kernel_rfl) (by kernel_rfl) (by kernel_rfl) (by kernel_rfl) (fun _ _ _ h => h) (by rfl) ?_ (fun _ => HS) ?_; rotate_left; (· (intro w; go_simp; (try with_reducible rfl))); try simp only [Act.put, List.setIfInBounds_toArray, List.set_cons_zero, List.set_cons_succ])
    (refine wpAnyS_take 2 ?_ rfl (by kernel_rfl) (by kernel_rfl) (by kernel_rfl) (by kernel_rfl) (by kernel_rfl) (by kernel_rfl) (fun _ _ _ h => h) (by rfl) ?_ HS ?_; rotate_left; (· (intro w hSw; obtain ⟨s1, s2, s3⟩ := hSw; go_simp; (try with_reducible rfl))); try simp only [Act.put, List.setIfInBounds_toArray, List.set_cons_zero, List.set_cons_succ])
    (refine wpAnyS_take0 3 ?_ rfl (by kernel_rfl) (by kernel_rfl) (by kernel_rfl) (by kernel_rfl) (fun _ _ _ h => h) (by rfl) ?_ (fun _ => HS) ?_; rotate_left; (· (intro w; go_simp; (try with_reducible rfl))); try simp only [Act.put, List.setIfInBounds_toArray, List.set_cons_zero, List.set_cons_succ])
    (refine wpAnyS_take 4 ?_ rfl (by kernel_rfl) (by kernel_rfl) (by kernel_rfl) (by kernel_rfl) (by kernel_rfl) (by kernel_rfl) (fun _ _ _ h => h) (by rfl) ?_ HS ?_; rotate_left; (· (intro w hSw; obtain ⟨s1, s2, s3⟩ := hSw; go_simp; (try with_reducible rfl))); try simp only [Act.put, List.setIfInBounds_toArray, List.set_cons_zero, List.set_cons_succ])
    (refine wpAnyS_take0 5 ?_ rfl (by kernel_rfl) (by kernel_rfl) (by kernel_rfl) (by kernel_rfl) (fun _ _ _ h => h) (by rfl) ?_ (fun _ => HS) ?_; rotate_left; (· (intro w; go_simp; (try with_reducible rfl))); try simp only [Act.put, List.setIfInBounds_toArray, List.set_cons_zero, List.set_cons_succ])
    (refine wpAnyS_take0 6 ?_ rfl (by kernel_rfl) (by kernel_rfl) (by kernel_rfl) (by kernel_rfl) (fun _ _ _ h => h) (by rfl) ?_ (fun _ => HS) ?_; rotate_left; (· (intro w; go_simp; (try with_reducible rfl))); try simp only [Act.put, List.setIfInBounds_toArray, List.set_cons_zero, List.set_cons_succ])
    (refine wpAnyS_take 7 ?_ rfl (by kernel_rfl) (by kernel_rfl) (by kernel_rfl) (by kernel_rfl) (by kernel_rfl) (by kernel_rfl) (fun _ _ _ h => h) (by rfl) ?_ HS ?_; rotate_left; (· (intro w hSw; obtain ⟨s1, s2, s3⟩ := hSw; go_simp; (try with_reducible rfl))); try simp only [Act.put, List.setIfInBounds_toArray, List.set_cons_zero, List.set_cons_succ])
    (refine wpAnyS_take0 8 ?_ rfl (by kernel_rfl) (by kernel_rfl) (by kernel_rfl) (by kernel_rfl) (fun _ _ _ h => h) (by rfl) ?_ (fun _ => HS) ?_; rotate_left; (· (intro w; go_simp; (try with_reducible rfl))); try simp only [Act.put, List.setIfInBounds_toArray, List.set_cons_zero, List.set_cons_succ])
    (refine wpAnyS_take 9 ?_ rfl (by kernel_rfl) (by kernel_rfl) (by kernel_rfl) (by kernel_rfl) (by kernel_rfl) (by kernel_rfl) (fun _ _ _ h => h) (by rfl) ?_ HS ?_; rotate_left; (· (intro w hSw; obtain ⟨s1, s2, s3⟩ := hSw; go_simp; (try with_reducible rfl))); try simp only [Act.put, List.setIfInBounds_toArray, List.set_cons_zero, List.set_cons_succ])
    (refine wpAnyS_take0 10 ?_ rfl (by kernel_rfl) (by kernel_rfl) (by kernel_rfl) (by kernel_rfl) (fun _ _ _ h => h) (by rfl) ?_ (fun _ => HS) ?_; rotate_left; (· (intro w; go_simp; (try with_reducible rfl))); try simp only [Act.put, List.setIfInBounds_toArray, List.set_cons_zero, List.set_cons_succ])
    (refine wpAnyS_take0 11 ?_ rfl (by kernel_rfl) (by kernel_rfl) (by kernel_rfl) (by kernel_rfl) (fun _ _ _ h => h) (by rfl) ?_ (fun _ => HS) ?_; rotate_left; (· (intro w; go_simp; (try with_reducible rfl))); try simp only [Act.put, List.setIfInBounds_toArray, List.set_cons_zero, List.set_cons_succ])
    (refine wpAnyS_take 12 ?_ rfl (by kernel_rfl) (by kernel_rfl) (by kernel_rfl) (by kernel_rfl) (by kernel_rfl) (by kernel_rfl) (fun _ _ _ h => h) (by rfl) ?_ HS ?_; rotate_left; (· (intro w hSw; obtain ⟨s1, s2, s3⟩ := hSw; go_simp; (try with_reducible rfl))); try simp only [Act.put, List.setIfInBounds_toArray, List.set_cons_zero, List.set_cons_succ])
    (refine wpAnyS_take0 13 ?_ rfl (by kernel_rfl) (by kernel_rfl) (by kernel_rfl) (by kernel_rfl) (fun _ _ _ h => h) (by rfl) ?_ (fun _ => HS) ?_; rotate_left; (· (intro w; go_simp; (try with_reducible rfl))); try simp only [Act.put, List.setIfInBounds_toArray, List.set_cons_zero, List.set_cons_succ])
    (refine wpAnyS_take 14 ?_ rfl (by kernel_rfl) (by kernel_rfl) (by kernel_rfl) (by kernel_rfl) (by kernel_rfl) (by kernel_rfl) (fun _ _ _ h => h) (by rfl) ?_ HS ?_; rotate_left; (· (intro w hSw; obtain ⟨s1, s2, s3⟩ := hSw; go_simp; (try with_reducible rfl))); try simp only [Act.put, List.setIfInBounds_toArray, List.set_cons_zero, List.set_cons_succ])
    (refine wpAnyS_take0 16 ?_ rfl (by kernel_rfl) (by kernel_rfl) (by kernel_rfl) (by kernel_rfl) (fun _ _ _ h => h) (by rfl) ?_ (fun _ => HS) ?_; rotate_left; (· (intro w; go_simp; (try with_reducible rfl))); try simp only [Act.put, List.setIfInBounds_toArray, List.set_cons_zero, List.set_cons_succ])
    (refine wpAnyS_take 17 ?_ rfl (by kernel_rfl) (by kernel_rfl) (by kernel_rfl) (by kernel_rfl) (by kernel_rfl) (by kernel_rfl) (fun _ _ _ h => h) (by rfl) ?_ HS ?_; rotate_left; (· (intro w hSw; obtain ⟨s1, s2, s3⟩ := hSw; go_simp; (try with_reducible rfl))); try simp only [Act.put, List.setIfInBounds_toArray, List.set_cons_zero, List.set_cons_succ])
    (refine wpAnyS_take0 18 ?_ rfl (by kernel_rfl) (by kernel_rfl) (by kernel_rfl) (by kernel_rfl) (fun _ _ _ h => h) (by rfl) ?_ (fun _ => HS) ?_; rotate_left; (· (intro w; go_simp; (try with_reducible rfl))); try simp only [Act.put, List.setIfInBounds_toArray, List.set_cons_zero, List.set_cons_succ])
    (refine wpAnyS_take 19 ?_ rfl (by kernel_rfl) (by kernel_rfl) (by kernel_rfl) (by kernel_rfl) (by kernel_rfl) (by kernel_rfl) (fun _ _ _ h => h) (by rfl) ?_ HS ?_; rotate_left; (· (intro w hSw; obtain ⟨s1, s2, s3⟩ := hSw; go_simp; (try with_reducible rfl))); try simp only [Act.put, List.setIfInBounds_toArray, List.set_cons_zero, List.set_cons_succ])
    refine wpAnyS_two 15 22 rfl rfl (by kernel_rfl) (by rfl) (by rfl) ?_ ?_
    · intro K hK
      go_simp
      refine (l00Min_any _ _ _).mono ?_
      rintro r w' ⟨rfl, rfl⟩
      try simp only [Act.put, List.setIfInBounds_toArray, List.set_cons_zero, List.set_cons_succ]
      refine hK _ _ (fun _ => HS) ?_
      clear hK
      refine wpAnyS_two 20 22 rfl rfl (by kernel_rfl) (by rfl) (by rfl) ?_ ?_
      · intro K hK
        go_simp
        refine (l00Max_any _ _ _).mono ?_
        rintro r w' ⟨rfl, rfl⟩
        try simp only [Act.put, List.setIfInBounds_toArray, List.set_cons_zero, List.set_cons_succ]
        refine hK _ _ (fun _ => HS) ?_
        clear hK
        (refine wpAnyS_take0 21 ?_ rfl (by kernel_rfl) (by kernel_rfl) (by kernel_rfl) (by kernel_rfl) (fun _ _ _ h => h) (by rfl) ?_ (fun _ => HS) ?_; rotate_left; (· (intro w; go_simp; (try with_reducible rfl))); try simp only [Act.put, List.setIfInBounds_toArray, List.set_cons_zero, List.set_cons_succ])
        refine wpAnyS_one 22 rfl (by kernel_rfl) (by rfl) ?_
        intro K hK
        go_simp
        have KN := Blk.new wd 25 (potC0 ⟨#[]⟩ 0 0 0 0)
        have HX := Lib.hid (HX.out.next ((Below.refl wd.heap.size wd).alloc (Nat.le_refl _) (.cells (potC0 ⟨#[]⟩ 0 0 0 0) 25)))
        have gnr : gr < wd.heap.size := HXD.out.2.2.2.2.2.1.lt
        obtain ⟨gn, hgn⟩ : ∃ x, x = wd.heap.size := ⟨_, rfl⟩
        rw [← hgn] at KN gnr ⊢
        have KN := Lib.hid KN
        clear hgn
        generalize wd.alloc (.cells (potC0 ⟨#[]⟩ 0 0 0 0) 25) = we at KN HX ⊢
        have HS : SM ga gb (potC0 s0 a1 a2 a3 a4) (potC0 t0 b1 b2 b3 b4) we := ⟨HX.out.2.2.2.1.cell, HX.out.2.2.2.2.1.cell, trivial⟩
        try simp only [Act.put, List.setIfInBounds_toArray, List.set_cons_zero, List.set_cons_succ]
        refine hK _ _ (fun _ => HS) ?_
        clear hK
        rw [← HMN.out, ← HMX.out, ← HD1.out, ← HD2.out]
        refine wpAnyS_one 23 rfl (by kernel_rfl) (by rfl) ?_
        intro K hK
        have hn := KN.out.cell
        have hnf := KN.out.frozen
        go_simp
        have KN := Lib.hid (KN.out.set5 id d1 d2 mn mx)
        have HX := Lib.hid (HX.out.far5 gnr (.string id) (.int .i64 d1) (.int .i64 d2) (.int .i64 mn) (.int .i64 mx))
        refine hK _ _ (fun h => absurd h (by decide +kernel)) ?_
        clear hK hn hnf HS
        generalize (((((we.setCell ⟨gn, 0, none⟩ (.string id)).setCell ⟨gn, 1, none⟩ (.int .i64 d1)).setCell ⟨gn, 2, none⟩ (.int .i64 d2)).setCell ⟨gn, 3, none⟩ (.int .i64 mn)).setCell ⟨gn, 4, none⟩ (.int .i64 mx)) = w3 at KN HX ⊢
        refine wpAnyS_done (by kernel_rfl) ?_
        have CV := potone_is H4.out w3 z2 KN.out
        go_wp2_with fail
        refine CV.mono ?_
        rintro r w' ⟨rfl, rfl⟩
        clear CV
        have hc := HX.out.2.2.2.2.2.1.cell
        have hf := HX.out.2.2.2.2.2.1.frozen
        have hn := KN.out.cell
        go_wp2
        refine bodyPost_ret (v := .tuple #[potV id d1 d2 mn mx, .int .i64 0]) (by simp [results, Try.results5, go_sem, hc]) rfl (retM HE.out rfl (below_set5 HX.out.2.2.2.2.2.2 (by have := HX.out.1; have := HX.out.2.1; have := HX.out.2.2.1; omega) _ _ _ _ _))
      · intro K hK
        go_simp
        have KN := Blk.new wd 25 (potC0 ⟨#[]⟩ 0 0 0 0)
        have HX := Lib.hid (HX.out.next ((Below.refl wd.heap.size wd).alloc (Nat.le_refl _) (.cells (potC0 ⟨#[]⟩ 0 0 0 0) 25)))
        have gnr : gr < wd.heap.size := HXD.out.2.2.2.2.2.1.lt
        obtain ⟨gn, hgn⟩ : ∃ x, x = wd.heap.size := ⟨_, rfl⟩
        rw [← hgn] at KN gnr ⊢
        have KN := Lib.hid KN
        clear hgn
        generalize wd.alloc (.cells (potC0 ⟨#[]⟩ 0 0 0 0) 25) = we at KN HX ⊢
        have HS : SM ga gb (potC0 s0 a1 a2 a3 a4) (potC0 t0 b1 b2 b3 b4) we := ⟨HX.out.2.2.2.1.cell, HX.out.2.2.2.2.1.cell, trivial⟩
        try simp only [Act.put, List.setIfInBounds_toArray, List.set_cons_zero, List.set_cons_succ]
        refine hK _ _ (fun _ => HS) ?_
        clear hK
        refine wpAnyS_one 20 rfl (by kernel_rfl) (by rfl) ?_
        intro K hK
        go_simp
        refine (l00Max_any _ _ _).mono ?_
        rintro r w' ⟨rfl, rfl⟩
        try simp only [Act.put, List.setIfInBounds_toArray, List.set_cons_zero, List.set_cons_succ]
        refine hK _ _ (fun _ => HS) ?_
        clear hK
        (refine wpAnyS_take0 21 ?_ rfl (by kernel_rfl) (by kernel_rfl) (by kernel_rfl) (by kernel_rfl) (fun _ _ _ h => h) (by rfl) ?_ (fun _ => HS) ?_; rotate_left; (· (intro w; go_simp; (try with_reducible rfl))); try simp only [Act.put, List.setIfInBounds_toArray, List.set_cons_zero, List.set_cons_succ])
        rw [← HMN.out, ← HMX.out, ← HD1.out, ← HD2.out]
        refine wpAnyS_one 23 rfl (by kernel_rfl) (by rfl) ?_
        intro K hK
        have hn := KN.out.cell
        have hnf := KN.out.frozen
        go_simp
        have KN := Lib.hid (KN.out.set5 id d1 d2 mn mx)
        have HX := Lib.hid (HX.out.far5 gnr (.string id) (.int .i64 d1) (.int .i64 d2) (.int .i64 mn) (.int .i64 mx))
        refine hK _ _ (fun h => absurd h (by decide +kernel)) ?_
        clear hK hn hnf HS
        generalize (((((we.setCell ⟨gn, 0, none⟩ (.string id)).setCell ⟨gn, 1, none⟩ (.int .i64 d1)).setCell ⟨gn, 2, none⟩ (.int .i64 d2)).setCell ⟨gn, 3, none⟩ (.int .i64 mn)).setCell ⟨gn, 4, none⟩ (.int .i64 mx)) = w3 at KN HX ⊢
        refine wpAnyS_done (by kernel_rfl) ?_
        have CV := potone_is H4.out w3 z2 KN.out
        go_wp2_with fail
        refine CV.mono ?_
        rintro r w' ⟨rfl, rfl⟩
        clear CV
        have hc := HX.out.2.2.2.2.2.1.cell
        have hf := HX.out.2.2.2.2.2.1.frozen
        have hn := KN.out.cell
        go_wp2
        refine bodyPost_ret (v := .tuple #[potV id d1 d2 mn mx, .int .i64 0]) (by simp [results, Try.results5, go_sem, hc]) rfl (retM HE.out rfl (below_set5 HX.out.2.2.2.2.2.2 (by have := HX.out.1; have := HX.out.2.1; have := HX.out.2.2.1; omega) _ _ _ _ _))
    · intro K hK
      go_simp
      have KN := Blk.new wd 25 (potC0 ⟨#[]⟩ 0 0 0 0)
      have HX := Lib.hid (HX.out.next ((Below.refl wd.heap.size wd).alloc (Nat.le_refl _) (.cells (potC0 ⟨#[]⟩ 0 0 0 0) 25)))
      have gnr : gr < wd.heap.size := HXD.out.2.2.2.2.2.1.lt
      obtain ⟨gn, hgn⟩ : ∃ x, x = wd.heap.size := ⟨_, rfl⟩
      rw [← hgn] at KN gnr ⊢
      have KN := Lib.hid KN
      clear hgn
      generalize wd.alloc (.cells (potC0 ⟨#[]⟩ 0 0 0 0) 25) = we at KN HX ⊢
      have HS : SM ga gb (potC0 s0 a1 a2 a3 a4) (potC0 t0 b1 b2 b3 b4) we := ⟨HX.out.2.2.2.1.cell, HX.out.2.2.2.2.1.cell, trivial⟩
      try simp only [Act.put, List.setIfInBounds_toArray, List.set_cons_zero, List.set_cons_succ]
      refine hK _ _ (fun _ => HS) ?_
      clear hK
      refine wpAnyS_one 15 rfl (by kernel_rfl) (by rfl) ?_
      intro K hK
      go_simp
      refine (l00Min_any _ _ _).mono ?_
      rintro r w' ⟨rfl, rfl⟩
      try simp only [Act.put, List.setIfInBounds_toArray, List.set_cons_zero, List.set_cons_succ]
      refine hK _ _ (fun _ => HS) ?_
      clear hK
      refine wpAnyS_one 20 rfl (by kernel_rfl) (by rfl) ?_
      intro K hK
      go_simp
      refine (l00Max_any _ _ _).mono ?_
      rintro r w' ⟨rfl, rfl⟩
      try simp only [Act.put, List.setIfInBounds_toArray, List.set_cons_zero, List.set_cons_succ]
      refine hK _ _ (fun _ => HS) ?_
      clear hK
      (refine wpAnyS_take0 21 ?_ rfl (by kernel_rfl) (by kernel_rfl) (by kernel_rfl) (by kernel_rfl) (fun _ _ _ h => h) (by rfl) ?_ (fun _ => HS) ?_; rotate_left; (· (intro w; go_simp; (try with_reducible rfl))); try simp only [Act.put, List.setIfInBounds_toArray, List.set_cons_zero, List.set_cons_succ])
      rw [← HMN.out, ← HMX.out, ← HD1.out, ← HD2.out]
      refine wpAnyS_one 23 rfl (by kernel_rfl) (by rfl) ?_
      intro K hK
      have hn := KN.out.cell
      have hnf := KN.out.frozen
      go_simp
      have KN := Lib.hid (KN.out.set5 id d1 d2 mn mx)
      have HX := Lib.hid (HX.out.far5 gnr (.string id) (.int .i64 d1) (.int .i64 d2) (.int .i64 mn) (.int .i64 mx))
      refine hK _ _ (fun h => absurd h (by decide +kernel)) ?_
      clear hK hn hnf HS
      generalize (((((we.setCell ⟨gn, 0, none⟩ (.string id)).setCell ⟨gn, 1, none⟩ (.int .i64 d1)).setCell ⟨gn, 2, none⟩ (.int .i64 d2)).setCell ⟨gn, 3, none⟩ (.int .i64 mn)).setCell ⟨gn, 4, none⟩ (.int .i64 mx)) = w3 at KN HX ⊢
      refine wpAnyS_done (by kernel_rfl) ?_
      have CV := potone_is H4.out w3 z2 KN.out
      go_wp2_with fail
      refine CV.mono ?_
      rintro r w' ⟨rfl, rfl⟩
      clear CV
      have hc := HX.out.2.2.2.2.2.1.cell
      have hf := HX.out.2.2.2.2.2.1.frozen
      have hn := KN.out.cell
      go_wp2
      refine bodyPost_ret (v := .tuple #[potV id d1 d2 mn mx, .int .i64 0]) (by simp [results, Try.results5, go_sem, hc]) rfl (retM HE.out rfl (below_set5 HX.out.2.2.2.2.2.2 (by have := HX.out.1; have := HX.out.2.1; have := HX.out.2.2.1; omega) _ _ _ _ _))
end
end Go.Proofs.Ytmngjlamnkkaeaa
