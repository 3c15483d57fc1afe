/- Set-ups of strings: total tensions, strings that break. -/
import Derived.Test.YtemkggecempmgaaSetUpS
import Derived.Test.YtemkggecempmgaaCopy
set_option linter.unusedVariables false
namespace Go.Proofs.Ytemkggecempmgaa
open Go.RowKit

def tnl (x : CordD) : Int := tenL x.a0 x.a1 x.a2
def hol (x : CordD) (share : Int) : Bool := hoB x.a0 x.a1 x.a2 x.a3 share
abbrev c0D : CordD := ⟨0, 0, 0, 0⟩
def totTo (ds : List CordD) : Nat → Int
  | 0 => 0
  | k + 1 => totTo ds k + tnl (ds.getD k c0D)
def brTo (ds : List CordD) (share : Int) : Nat → List Int
  | 0 => []
  | k + 1 => if hol (ds.getD k c0D) share = true then brTo ds share k else brTo ds share k ++ [(k : Int)]
theorem brTo_len (ds : List CordD) (share : Int) : ∀ k, (brTo ds share k).length ≤ k
  | 0 => by simp [brTo]
  | k + 1 => by
    have := brTo_len ds share k
    rw [brTo]
    split
    · omega
    · simp; omega
theorem totTo_bd {ds : List CordD} (h : ∀ x ∈ ds, cordOk x.a0 x.a1 x.a2 x.a3) : ∀ k, k ≤ ds.length → 0 ≤ totTo ds k ∧ totTo ds k ≤ 10000000 * k
  | 0, _ => by simp [totTo]
  | k + 1, hk => by
    have ih := totTo_bd h k (by omega)
    have q := h ds[k] (List.getElem_mem _)
    have tb := tenL_bd q.1.1 q.1.2 q.2.1.1 q.2.1.2 q.2.2.1.1 q.2.2.1.2
    rw [totTo, getD_ok (List.getElem?_eq_getElem (show k < ds.length by omega)), tnl]
    omega
set_option maxHeartbeats 1000000 in
theorem l09Tension_at (p l g s : Int) (b o : Nat) (w : World) (h : cordOk p l g s) (hb : b < w.heap.size) (c0 : w.cell? ⟨b, o, none⟩ = some (.int .i64 p)) (c1 : w.cell? ⟨b, o + 1, none⟩ = some (.int .i64 l)) (c2 : w.cell? ⟨b, o + 2, none⟩ = some (.int .i64 g)) :
    Calls Try.prog 54 #[.pointer (some ⟨b, o, none⟩)] w fun e w' => e = .returned (.int .i64 (tenL p l g)) ∧ Below w.heap.size w w' := by
  have q := prod_bd h.1.1 h.1.2 h.2.1.1 h.2.1.2 h.2.2.1.1 h.2.2.1.2
  obtain ⟨q1, q2, q3, q4, q5⟩ := q
  have d0 := bel_at c0 hb
  have d1 := bel_at c1 hb
  have d2 := bel_at c2 hb
  have w1 : IntKind.i64.wrap (4 * p) = 4 * p := IntWalk.i64_in _ (by omega)
  have w2 : IntKind.i64.wrap (4 * p * p) = 4 * p * p := IntWalk.i64_in _ (by omega)
  have w3 : IntKind.i64.wrap (4 * p * p * l) = 4 * p * p * l := IntWalk.i64_in _ (by omega)
  have w4 : IntKind.i64.wrap (4 * p * p * l * l) = 4 * p * p * l * l := IntWalk.i64_in _ (by omega)
  have w5 : IntKind.i64.wrap (4 * p * p * l * l * g) = 4 * p * p * l * l * g := IntWalk.i64_in _ (by omega)
  clear h c0 c1 c2
  unfold tenL
  go_enter Try.func54, Try.ntmps54
  go_wp2_with fail
  (refine wp_region_bel w.heap.size w (Below.refl _ _) (by kernel_rfl) (by kernel_rfl) ?_; (repeat (go_big_quiet_step ((first | (go_at_call 85; exact bel_same (l01Div_any _ _ _ (by omega) (by omega))))))); refine wpQuiet_nil ?_; rintro w1 ⟨⟨_, hb1⟩, rfl⟩)
  go_wp2
  go_ret
  exact ⟨rfl, hb1⟩
set_option maxHeartbeats 1000000 in
theorem l09Holds_at (p l g s share : Int) (b o : Nat) (w : World) (h : cordOk p l g s) (h0 : 0 ≤ share) (h1 : share ≤ 1000) (hb : b < w.heap.size) (c0 : w.cell? ⟨b, o, none⟩ = some (.int .i64 p)) (c1 : w.cell? ⟨b, o + 1, none⟩ = some (.int .i64 l)) (c2 : w.cell? ⟨b, o + 2, none⟩ = some (.int .i64 g)) (c3 : w.cell? ⟨b, o + 3, none⟩ = some (.int .i64 s)) :
    Calls Try.prog 86 #[.pointer (some ⟨b, o, none⟩), .int .i64 share] w fun e w' => e = .returned (.bool (hoB p l g s share)) ∧ Below w.heap.size w w' := by
  have tb := tenL_bd h.1.1 h.1.2 h.2.1.1 h.2.1.2 h.2.2.1.1 h.2.2.1.2
  have sb := share_bd h.2.2.2.1 h.2.2.2.2 h0 h1
  have H := Lib.hid h
  have C0 := Lib.hid c0
  have C1 := Lib.hid c1
  have C2 := Lib.hid c2
  obtain ⟨t, ht⟩ : ∃ t, tenL p l g = t := ⟨_, rfl⟩
  have T : Hid (∀ w' : World, Below w.heap.size w w' → Calls Try.prog 54 #[.pointer (some ⟨b, o, none⟩)] w' fun e w'' => e = .returned (.int .i64 t) ∧ Below w'.heap.size w' w'') := Lib.hid fun w' hb' => by
    rw [← ht]
    exact l09Tension_at p l g s b o w' H.out (Nat.lt_of_lt_of_le hb hb'.size) ((hb'.cell (p := ⟨b, o, none⟩) hb).trans C0.out) ((hb'.cell (p := ⟨b, o + 1, none⟩) hb).trans C1.out) ((hb'.cell (p := ⟨b, o + 2, none⟩) hb).trans C2.out)
  unfold hoB
  rw [ht] at tb ⊢
  have d3 := bel_at c3 hb
  clear h ht c0 c1 c2 c3
  have w1 : IntKind.i64.wrap (1000 * t) = 1000 * t := IntWalk.i64_in _ (by omega)
  have w2 : IntKind.i64.wrap (share * s) = share * s := IntWalk.i64_in _ (by omega)
  go_enter Try.func86, Try.ntmps86
  go_wp2_with fail
  (refine wp_region_bel w.heap.size w (Below.refl _ _) (by kernel_rfl) (by kernel_rfl) ?_; (repeat (go_big_quiet_step ((first | (go_at_call 54; exact bel_of (Nat.le_refl _) (T.out _ (Bel.below _))))))); refine wpQuiet_nil ?_; rintro wx ⟨⟨_, hb1⟩, rfl⟩)
  go_wp2
  go_ret
  exact ⟨rfl, hb1⟩
set_option maxHeartbeats 1000000 in
theorem TensionOf_ok (p l g s : Int) (w : World) (h : cordB p l g s = true) :
    Calls Try.prog 17 #[cordV p l g s] w fun e w' => e = .returned (.tuple #[.int .i64 (tenL p l g), .int .i64 0]) ∧ Below w.heap.size w w' := by
  have K0 := Blk.new w 39 #[.int .i64 p, .int .i64 l, .int .i64 g, .int .i64 s]
  have B0 := Lib.hid ((Below.refl w.heap.size w).alloc (Nat.le_refl _) (.cells #[.int .i64 p, .int .i64 l, .int .i64 g, .int .i64 s] 39))
  have CO := cordone_is h (w.alloc (.cells #[.int .i64 p, .int .i64 l, .int .i64 g, .int .i64 s] 39)) K0
  have CT := l09Tension_any p l g s w.heap.size (w.alloc (.cells #[.int .i64 p, .int .i64 l, .int .i64 g, .int .i64 s] 39)) (cordOk_of h) K0
  clear K0 h
  go_enter Try.func17, Try.ntmps17
  go_wp2_with ((go_at_call 53; refine (CO).mono ?_; rintro e w' ⟨rfl, rfl⟩))
  refine CT.mono ?_
  rintro r w1 ⟨rfl, hb1⟩
  clear CT
  go_wp2
  go_ret2
  exact ⟨rfl, below_more B0.out hb1 (Nat.le_refl _)⟩
section
variable (A : Option Addr) (c n : Nat) (ds : List CordD) (share : Int)
set_option maxHeartbeats 2000000 in
theorem TotalTension_i (w : World) (hn : ds.length = n) (h : Rd w w.heap.size 4 A n (ds.flatMap cordF)) (hv : cordsB ds = true) :
    Calls Try.prog 15 #[.slice A n c] w fun e w' => e = .returned (.tuple #[.int .i64 (totTo ds n), .int .i64 0]) ∧ Below w.heap.size w w' := by
  have v := cordsB_t hv
  have n4 : n ≤ 4 := by omega
  have CV := validCords_any A c n ds w hn h (by omega)
  rw [hv] at CV
  have HN := Lib.hid hn
  have H := Lib.hid h
  have V := Lib.hid v.2
  have TB : Hid (∀ k, k ≤ n → 0 ≤ totTo ds k ∧ totTo ds k ≤ 10000000 * k) := Lib.hid fun k hk => totTo_bd v.2 k (by omega)
  clear hn h hv v
  go_enter Try.func15, Try.ntmps15
  go_wp2_with fail
  refine CV.mono ?_
  rintro r w1 ⟨rfl, hb1⟩
  have B1 := Lib.hid hb1
  clear CV hb1
  go_wp2_with fail
  go_loopw [12, 4] (fun i sv wr => ∃ (k : Nat) (x : Int), k ≤ n ∧ i = .int .i64 k ∧ sv = .int .i64 x ∧ (0 ≤ x ∧ x ≤ 40000000) ∧ Hid (x = totTo ds k) ∧ Hid (Below w.heap.size w wr)) (fun i _ _ => n - (intOf i).toNat)
  case atStart => exact ⟨0, 0, Nat.zero_le _, rfl, rfl, by omega, Lib.hid rfl, B1⟩
  case round =>
    obtain ⟨k, x, hk, rfl, rfl, xb, HX, hb⟩ := hrel
    by_cases hlt : k < n
    · obtain ⟨y, hy, hym⟩ := getD_of (l := ds) (i := k) (by rw [HN.out]; exact hlt)
      have yok := V.out y hym
      obtain ⟨b, o, rfl, hbB, hc⟩ := (H.out.next hb.out).at_ cordF_len (by omega)
      have c0 : wr.cell? ⟨b, o + k * 4, none⟩ = some (.int .i64 y.a0) := hc k y 0 _ hy rfl
      have c1 : wr.cell? ⟨b, o + k * 4 + 1, none⟩ = some (.int .i64 y.a1) := hc k y 1 _ hy rfl
      have c2 : wr.cell? ⟨b, o + k * 4 + 2, none⟩ = some (.int .i64 y.a2) := hc k y 2 _ hy rfl
      have c3 : wr.cell? ⟨b, o + k * 4 + 3, none⟩ = some (.int .i64 y.a3) := hc k y 3 _ hy rfl
      have BA := Lib.hid (below_more hb.out ((Below.refl wr.heap.size wr).alloc (Nat.le_refl _) (.cells #[.int .i64 y.a0, .int .i64 y.a1, .int .i64 y.a2, .int .i64 y.a3] 39)) (Nat.le_refl _))
      have KN := Blk.new wr 39 #[.int .i64 y.a0, .int .i64 y.a1, .int .i64 y.a2, .int .i64 y.a3]
      have nx := TB.out (k + 1) (by omega)
      obtain ⟨t, ht⟩ : ∃ t, t = tenL y.a0 y.a1 y.a2 := ⟨_, rfl⟩
      have E1 : Hid (x + t = totTo ds (k + 1)) := Lib.hid (by rw [totTo, getD_ok hy, HX.out, tnl, ht])
      rw [← E1.out] at nx
      have tb := tenL_bd yok.1.1 yok.1.2 yok.2.1.1 yok.2.1.2 yok.2.2.1.1 yok.2.2.1.2
      rw [← ht] at tb
      have CT : Hid (∀ w, Calls Try.prog 50 #[cordV y.a0 y.a1 y.a2 y.a3] w fun e w' => e = .returned (.int .i64 t) ∧ Below w.heap.size w w') := Lib.hid fun w => by rw [ht]; exact tension_any _ _ _ _ w yok
      clear hc hy hym ht yok
      go_upto_region 7 with fail
      clear c0 c1 c2 c3
      generalize wr.alloc (.cells #[.int .i64 y.a0, .int .i64 y.a1, .int .i64 y.a2, .int .i64 y.a3] 39) = w3 at BA KN ⊢
      have hc := KN.cell
      go_wp2_with fail
      refine (CT.out _).mono ?_
      rintro r w4 ⟨rfl, hb4⟩
      have B4 := Lib.hid (below_more BA.out hb4 (Nat.le_refl _))
      clear hb4 hc KN BA
      go_wp2
      go_roundw
      case rel => exact ⟨k + 1, x + t, by omega, by go_num, rfl, by omega, E1, B4⟩
      case measure => simp [intOf]; omega
    · obtain rfl : k = n := by omega
      go_wp2
      go_ret2
      exact ⟨by rw [HX.out]; rfl, hb.out⟩
set_option maxHeartbeats 2000000 in
theorem TotalTension_s (w : World) (hn : ds.length = n) (h : Rd w w.heap.size 4 A n (ds.flatMap cordF)) (hv : cordsB ds = true) :
    Calls Try.prog 19 #[.slice A n c] w fun e w' => e = .returned (.tuple #[.int .i64 (totTo ds n), .int .i64 0]) ∧ Below w.heap.size w w' := by
  have v := cordsB_t hv
  have n4 : n ≤ 4 := by omega
  have CV := l09List_any A c n ds w hn h (by omega)
  rw [hv] at CV
  have HN := Lib.hid hn
  have H := Lib.hid h
  have V := Lib.hid v.2
  have TB : Hid (∀ k, k ≤ n → 0 ≤ totTo ds k ∧ totTo ds k ≤ 10000000 * k) := Lib.hid fun k hk => totTo_bd v.2 k (by omega)
  clear hn h hv v
  go_enter Try.func19, Try.ntmps19
  go_wp2_with ((go_at_call 55; refine (CV).mono ?_; rintro e w' ⟨rfl, rfl⟩))
  clear CV
  go_loopw [5, 4] (fun i sv wr => ∃ (k : Nat) (x : Int), k ≤ n ∧ i = .int .i64 k ∧ sv = .int .i64 x ∧ (0 ≤ x ∧ x ≤ 40000000) ∧ Hid (x = totTo ds k) ∧ Hid (Below w.heap.size w wr)) (fun i _ _ => n - (intOf i).toNat)
  case atStart => exact ⟨0, 0, Nat.zero_le _, rfl, rfl, by omega, Lib.hid rfl, Lib.hid (Below.refl _ _)⟩
  case round =>
    obtain ⟨k, x, hk, rfl, rfl, xb, HX, hb⟩ := hrel
    by_cases hlt : k < n
    · obtain ⟨y, hy, hym⟩ := getD_of (l := ds) (i := k) (by rw [HN.out]; exact hlt)
      have yok := V.out y hym
      obtain ⟨b, o, rfl, hbB, hc⟩ := (H.out.next hb.out).at_ cordF_len (by omega)
      have nx := TB.out (k + 1) (by omega)
      obtain ⟨t, ht⟩ : ∃ t, t = tenL y.a0 y.a1 y.a2 := ⟨_, rfl⟩
      have E1 : Hid (x + t = totTo ds (k + 1)) := Lib.hid (by rw [totTo, getD_ok hy, HX.out, tnl, ht])
      rw [← E1.out] at nx
      have tb := tenL_bd yok.1.1 yok.1.2 yok.2.1.1 yok.2.1.2 yok.2.2.1.1 yok.2.2.1.2
      have CT := l09Tension_at y.a0 y.a1 y.a2 y.a3 b (o + k * 4) wr yok hbB (hc k y 0 _ hy rfl) (hc k y 1 _ hy rfl) (hc k y 2 _ hy rfl)
      rw [← ht] at tb CT
      clear hc hy hym ht yok
      go_wp2_with fail
      refine CT.mono ?_
      rintro r w4 ⟨rfl, hb4⟩
      have B4 := Lib.hid (below_more hb.out hb4 (Nat.le_refl _))
      clear hb4 CT
      go_wp2
      go_roundw
      case rel => exact ⟨k + 1, x + t, by omega, by go_num, rfl, by omega, E1, B4⟩
      case measure => simp [intOf]; omega
    · obtain rfl : k = n := by omega
      go_wp2
      go_ret2
      exact ⟨by rw [HX.out]; rfl, hb.out⟩
set_option maxHeartbeats 2000000 in
theorem BreakingStrings_i (w : World) (hn : ds.length = n) (h : Rd w w.heap.size 4 A n (ds.flatMap cordF)) (hv : cordsB ds = true) (h0 : 0 ≤ share) (h1 : share ≤ 1000) :
    Calls Try.prog 16 #[.slice A n c, .int .i64 share] w (RetS 2 w (brTo ds share n) 0) := by
  have v := cordsB_t hv
  have n4 : n ≤ 4 := by omega
  have CV := validCords_any A c n ds w hn h (by omega)
  rw [hv] at CV
  have HN := Lib.hid hn
  have H := Lib.hid h
  have V := Lib.hid v.2
  have hI : inB share 0 1000 = true := inB_mk ⟨h0, h1⟩
  clear hn h hv v
  go_enter Try.func16, Try.ntmps16
  go_wp2_with fail
  refine CV.mono ?_
  rintro r w1 ⟨rfl, hb1⟩
  have B1 := Lib.hid (hb1.alloc hb1.size (.cells #[] 2))
  have O1 := Lib.hid ((own_empty w1 2).mono (base' := w.heap.size) hb1.size)
  clear CV hb1
  go_wp2_with ((go_at_call 51; refine (isShare_any _ _).mono ?_; rintro e w' ⟨rfl, rfl⟩))
  generalize w1.alloc (.cells #[] 2) = w2 at B1 O1 ⊢
  clear hI
  go_loopw [18, 6] (fun i v wr => ∃ k : Nat, k ≤ n ∧ i = .int .i64 k ∧ Hid (wr.ownsRow w.heap.size 2 1 v (brTo ds share k).length (iv (brTo ds share k))) ∧ Hid (Below w.heap.size w wr)) (fun i _ _ => n - (intOf i).toNat)
  case atStart => exact ⟨0, Nat.zero_le _, rfl, O1, B1⟩
  case round =>
    obtain ⟨k, hk, rfl, O, hb⟩ := hrel
    by_cases hlt : k < n
    · obtain ⟨y, hy, hym⟩ := getD_of (l := ds) (i := k) (by rw [HN.out]; exact hlt)
      have yok := V.out y hym
      obtain ⟨b, o, rfl, hbB, hc⟩ := (H.out.next hb.out).at_ cordF_len (by omega)
      have c0 : wr.cell? ⟨b, o + k * 4, none⟩ = some (.int .i64 y.a0) := hc k y 0 _ hy rfl
      have c1 : wr.cell? ⟨b, o + k * 4 + 1, none⟩ = some (.int .i64 y.a1) := hc k y 1 _ hy rfl
      have c2 : wr.cell? ⟨b, o + k * 4 + 2, none⟩ = some (.int .i64 y.a2) := hc k y 2 _ hy rfl
      have c3 : wr.cell? ⟨b, o + k * 4 + 3, none⟩ = some (.int .i64 y.a3) := hc k y 3 _ hy rfl
      have BX := (Below.refl wr.heap.size wr).alloc (Nat.le_refl _) (.cells #[.int .i64 y.a0, .int .i64 y.a1, .int .i64 y.a2, .int .i64 y.a3] 39)
      have O3 := Lib.hid (own_below O.out BX)
      have BA := Lib.hid (below_more hb.out BX (Nat.le_refl _))
      have KN := Blk.new wr 39 #[.int .i64 y.a0, .int .i64 y.a1, .int .i64 y.a2, .int .i64 y.a3]
      have EY := Lib.hid (getD_ok (d := c0D) hy)
      have YK := Lib.hid yok
      clear hc hy hym yok BX O
      go_upto_region 9 with fail
      clear c0 c1 c2 c3
      generalize wr.alloc (.cells #[.int .i64 y.a0, .int .i64 y.a1, .int .i64 y.a2, .int .i64 y.a3] 39) = w3 at BA KN O3 ⊢
      have hc := KN.cell
      cases hh : hol y share
      · have CH := holds_is (p := y.a0) (l := y.a1) (g := y.a2) (s := y.a3) (share := share) hh w3 YK.out h0 h1
        have E1 : Hid (brTo ds share k ++ [(k : Int)] = brTo ds share (k + 1)) := Lib.hid (by rw [brTo, EY.out, hh, if_neg (by decide)])
        have il : (brTo ds share k).length ≤ 1099511627776 := by have := brTo_len ds share k; omega
        clear hh
        go_wp2_with fail
        refine CH.mono ?_
        rintro r w4 ⟨rfl, hb4⟩
        have B4 := Lib.hid (below_more BA.out hb4 (Nat.le_refl _))
        have O4 := Lib.hid (own_below O3.out hb4)
        have hsz := B4.out.size
        clear hb4 hc KN BA O3 CH
        go_wp2_with (at_builtin; refine app1 rfl (.tmp 27) (.tmp 29) rfl w.heap.size u6 (brTo ds share k) k rfl O4.out rfl hsz il ?_; intro v9 w9 o9 b9; rw [E1.out] at o9; have O9 := Lib.hid o9; have B9 := Lib.hid (B4.out.trans b9); clear o9 b9)
        go_roundw
        case rel => exact ⟨k + 1, by omega, by go_num, O9, B9⟩
        case measure => simp [intOf]; omega
      · have CH := holds_is (p := y.a0) (l := y.a1) (g := y.a2) (s := y.a3) (share := share) hh w3 YK.out h0 h1
        have E1 : Hid (brTo ds share k = brTo ds share (k + 1)) := Lib.hid (by rw [brTo, EY.out, hh, if_pos rfl])
        clear hh
        go_wp2_with fail
        refine CH.mono ?_
        rintro r w4 ⟨rfl, hb4⟩
        have B4 := Lib.hid (below_more BA.out hb4 (Nat.le_refl _))
        have O4 := own_below O3.out hb4
        rw [E1.out] at O4
        have O4 := Lib.hid O4
        clear hb4 hc KN BA O3 CH
        go_wp2
        go_roundw
        case rel => exact ⟨k + 1, by omega, by go_num, O4, B4⟩
        case measure => simp [intOf]; omega
    · obtain rfl : k = n := by omega
      go_wp2
      go_ret2
      exact ⟨_, rfl, O.out, hb.out⟩
set_option maxHeartbeats 2000000 in
theorem l09Breaking_any (w : World) (hn : ds.length = n) (h : Rd w w.heap.size 4 A n (ds.flatMap cordF)) (hv : cordsB ds = true) (h0 : 0 ≤ share) (h1 : share ≤ 1000) :
    Calls Try.prog 57 #[.slice A n c, .int .i64 share] w fun e w' => ∃ v, e = .returned v ∧ w'.ownsRow w.heap.size 2 1 v (brTo ds share n).length (iv (brTo ds share n)) ∧ Below w.heap.size w w' := by
  have v := cordsB_t hv
  have n4 : n ≤ 4 := by omega
  have HN := Lib.hid hn
  have H := Lib.hid h
  have V := Lib.hid v.2
  clear hn h hv v
  have B1 := Lib.hid ((Below.refl w.heap.size w).alloc (Nat.le_refl _) (.cells #[] 2))
  have O1 := Lib.hid (own_empty w 2)
  go_enter Try.func57, Try.ntmps57
  go_wp2_with fail
  generalize w.alloc (.cells #[] 2) = w2 at B1 O1 ⊢
  go_loopw [6, 5] (fun i v wr => ∃ k : Nat, k ≤ n ∧ i = .int .i64 k ∧ Hid (wr.ownsRow w.heap.size 2 1 v (brTo ds share k).length (iv (brTo ds share k))) ∧ Hid (Below w.heap.size w wr)) (fun i _ _ => n - (intOf i).toNat)
  case atStart => exact ⟨0, Nat.zero_le _, rfl, O1, B1⟩
  case round =>
    obtain ⟨k, hk, rfl, O, hb⟩ := hrel
    by_cases hlt : k < n
    · obtain ⟨y, hy, hym⟩ := getD_of (l := ds) (i := k) (by rw [HN.out]; exact hlt)
      have yok := V.out y hym
      obtain ⟨b, o, rfl, hbB, hc⟩ := (H.out.next hb.out).at_ cordF_len (by omega)
      have CH := l09Holds_at y.a0 y.a1 y.a2 y.a3 share b (o + k * 4) wr yok h0 h1 hbB (hc k y 0 _ hy rfl) (hc k y 1 _ hy rfl) (hc k y 2 _ hy rfl) (hc k y 3 _ hy rfl)
      have EY := Lib.hid (getD_ok (d := c0D) hy)
      clear hc hy hym yok
      cases hh : hol y share
      · have hh2 : hoB y.a0 y.a1 y.a2 y.a3 share = false := hh
        rw [hh2] at CH
        have E1 : Hid (brTo ds share k ++ [(k : Int)] = brTo ds share (k + 1)) := Lib.hid (by rw [brTo, EY.out, hh, if_neg (by decide)])
        have il : (brTo ds share k).length ≤ 1099511627776 := by have := brTo_len ds share k; omega
        clear hh hh2
        go_wp2_with fail
        refine CH.mono ?_
        rintro r w4 ⟨rfl, hb4⟩
        have B4 := Lib.hid (below_more hb.out hb4 (Nat.le_refl _))
        have O4 := Lib.hid (own_below O.out hb4)
        have hsz := B4.out.size
        clear hb4 O CH
        go_wp2_with (at_builtin; refine app1 rfl (.tmp 20) (.tmp 22) rfl w.heap.size u5 (brTo ds share k) k rfl O4.out rfl hsz il ?_; intro v9 w9 o9 b9; rw [E1.out] at o9; have O9 := Lib.hid o9; have B9 := Lib.hid (B4.out.trans b9); clear o9 b9)
        go_roundw
        case rel => exact ⟨k + 1, by omega, by go_num, O9, B9⟩
        case measure => simp [intOf]; omega
      · have hh2 : hoB y.a0 y.a1 y.a2 y.a3 share = true := hh
        rw [hh2] at CH
        have E1 : Hid (brTo ds share k = brTo ds share (k + 1)) := Lib.hid (by rw [brTo, EY.out, hh, if_pos rfl])
        clear hh hh2
        go_wp2_with fail
        refine CH.mono ?_
        rintro r w4 ⟨rfl, hb4⟩
        have B4 := Lib.hid (below_more hb.out hb4 (Nat.le_refl _))
        have O4 := own_below O.out hb4
        rw [E1.out] at O4
        have O4 := Lib.hid O4
        clear hb4 O CH
        go_wp2
        go_roundw
        case rel => exact ⟨k + 1, by omega, by go_num, O4, B4⟩
        case measure => simp [intOf]; omega
    · obtain rfl : k = n := by omega
      go_wp2
      go_ret
      exact ⟨_, rfl, O.out, hb.out⟩
theorem BreakingStrings_s (w : World) (hn : ds.length = n) (h : Rd w w.heap.size 4 A n (ds.flatMap cordF)) (hv : cordsB ds = true) (h0 : 0 ≤ share) (h1 : share ≤ 1000) :
    Calls Try.prog 20 #[.slice A n c, .int .i64 share] w (RetS 2 w (brTo ds share n) 0) := by
  have v := cordsB_t hv
  have n4 : n ≤ 4 := by omega
  have CV := l09List_any A c n ds w hn h (by omega)
  rw [hv] at CV
  have hI : inB share 0 1000 = true := inB_mk ⟨h0, h1⟩
  have CB := l09Breaking_any A c n ds share w hn h hv h0 h1
  clear hn h hv v
  go_enter Try.func20, Try.ntmps20
  go_wp2_with (first | (go_at_call 55; refine (CV).mono ?_; rintro e w' ⟨rfl, rfl⟩) | (go_at_call 56; refine (l09Share_any _ _).mono ?_; rintro e w' ⟨rfl, rfl⟩))
  refine CB.mono ?_
  rintro r w1 ⟨v, rfl, ho, hb⟩
  clear CB CV
  have HO := Lib.hid ho
  clear ho
  go_wp2
  go_ret2
  exact ⟨v, rfl, HO.out, hb⟩
end
def hasTo (zs : List Int) (x : Int) : Nat → Bool
  | 0 => false
  | k + 1 => hasTo zs x k || zs.getD k 0 == x
set_option maxHeartbeats 1000000 in
theorem r8Has_any (A : Option Addr) (c n : Nat) (zs : List Int) (x : Int) (w : World) (h : Rd w w.heap.size 1 A n (iv zs)) (hn : n ≤ 9223372036854775807) :
    Calls Try.prog 18 #[.slice A n c, .int .i64 x] w fun e w' => e = .returned (.bool (decide (x ∈ zs))) ∧ w = w' := by
  have HN := Lib.hid h.len
  have H := Lib.hid h
  clear h
  go_enter Try.func18, Try.ntmps18
  go_wp2
  go_loop [5] (fun i => ∃ k : Nat, k ≤ n ∧ i = .int .i64 k ∧ Hid (∀ j, j < k → zs[j]? ≠ some x)) (fun i => n - (intOf i).toNat)
  case atStart => exact ⟨0, Nat.zero_le _, rfl, Lib.hid (fun j hj => by omega)⟩
  case round =>
    obtain ⟨k, hk, rfl, HK⟩ := hrel
    by_cases hlt : k < n
    · obtain ⟨y, hy, hym⟩ := getD_of (l := zs) (i := k) (by rw [HN.out]; exact hlt)
      obtain ⟨b, o, rfl, hbB, hc⟩ := H.out.ints (by omega)
      have c0 := hc k y hy
      have HY := Lib.hid hy
      by_cases hxy : y = x
      · have HE : Hid (decide (x ∈ zs) = true) := Lib.hid (decide_eq_true (hxy ▸ hym))
        have e1 : (y == x) = true := by simpa using hxy
        clear hc hy hym hxy
        go_wp2
        go_ret
        exact ⟨ret_bool HE.out.symm, rfl⟩
      · have e1 : (y == x) = false := by simpa using hxy
        have HN2 : Hid (∀ j, j < k + 1 → zs[j]? ≠ some x) := Lib.hid fun j hj => by
          rcases Nat.lt_or_ge j k with h | h
          · exact HK.out j h
          · obtain rfl : j = k := by omega
            rw [HY.out]; intro e; injection e with e; exact hxy e
        clear hc hy hym hxy
        go_wp2
        go_round
        case rel => exact ⟨k + 1, by omega, by go_num, HN2⟩
        case measure => simp [intOf]; omega
    · obtain rfl : k = n := by omega
      have HE : Hid (decide (x ∈ zs) = false) := Lib.hid (decide_eq_false fun hm => by
        obtain ⟨i, hi⟩ := List.getElem?_of_mem hm
        have := (List.getElem?_eq_some_iff.1 hi).1
        exact HK.out i (by rw [← HN.out]; exact this) hi)
      go_wp2
      go_ret
      exact ⟨ret_bool HE.out.symm, rfl⟩
theorem r8Abs_any (x : Int) (w : World) (h0 : -1000000000 ≤ x) (h1 : x ≤ 1000000000) :
    Calls Try.prog 21 #[.int .i64 x] w fun e w' => e = .returned (.int .i64 (max x (-x))) ∧ w = w' := by
  by_cases h : x < -x
  · rw [show max x (-x) = -x by omega]
    go_enter Try.func21, Try.ntmps21
    go_wp2
    go_ret
    exact ⟨rfl, rfl⟩
  · rw [show max x (-x) = x by omega]
    go_enter Try.func21, Try.ntmps21
    go_wp2
    go_ret
    exact ⟨rfl, rfl⟩
end Go.Proofs.Ytemkggecempmgaa
