/- The law FnExperts. -/
import Derived.Test.YtednmmmnkcbpjaaExpFns
import Derived.Test.YtednmmmnkcbpjaaLong
import Derived.Test.YtednmmmnkcbpjaaOpenI
set_option linter.unusedVariables false
namespace Go.Proofs.Ytednmmmnkcbpjaa
open Go.RowKit

theorem exp_R {zs : List Int} (hp : expB zs = true) : ∀ z ∈ zs, i64R z := by
  intro z hz
  obtain ⟨i, hi⟩ := List.getElem?_of_mem hz
  have b := (expB_t hp).2.2 i (List.getElem?_eq_some_iff.1 hi).1
  rw [getD_is hi] at b
  unfold i64R; omega
theorem MC_i (A : Option Addr) (c n : Nat) (zs : List Int) (w : World) (h : Rd w w.heap.size 1 A n (iv zs)) (hp : expB zs = true) :
    Calls Try.prog 8 #[.slice A n c] w fun e w' => e = .returned (.tuple #[.int .i64 (chL (mj zs) n), .int .i64 0]) ∧ Below w.heap.size w w' := by
  have E := expB_t hp
  rw [h.len] at E
  have := MajorityChance_i A c n zs w h (by omega) (exp_R hp)
  rw [show MajorityChance_L zs = (chL (mj zs) n, 0) by simp [MajorityChance_L, hp, h.len]] at this
  exact this
theorem MC_s (A : Option Addr) (c n : Nat) (zs : List Int) (w : World) (h : Rd w w.heap.size 1 A n (iv zs)) (hp : expB zs = true) :
    Calls Try.prog 13 #[.slice A n c] w fun e w' => e = .returned (.tuple #[.int .i64 (chL (mj zs) n), .int .i64 0]) ∧ Below w.heap.size w w' := by
  have E := expB_t hp
  rw [h.len] at E
  have := MajorityChance_s A c n zs w h (by omega) (exp_R hp)
  rw [show MajorityChance_L zs = (chL (mj zs) n, 0) by simp [MajorityChance_L, hp, h.len]] at this
  exact this
theorem BJ_ok (A : Option Addr) (c n : Nat) (zs : List Int) (w : World) (h : Rd w w.heap.size 1 A n (iv zs)) (hp : expB zs = true) :
    Calls Try.prog 10 #[.slice A n c] w fun e w' => ∃ (v : Value) (b : List Nat), e = .returned (.tuple #[v, .int .i64 (chL (mj (sh zs b)) b.length), .int .i64 0]) ∧ w'.ownsRow w.heap.size 2 1 v b.length (iv (nv b)) ∧ Best zs (lstI n (2 ^ n)) b ∧ Below w.heap.size w w' := by
  have E := expB_t hp
  have hn := h.len
  have hj := (jury_same E.2.2 E.1 E.2.1).2.2
  rw [hn] at E hj
  refine (BestJury_i A c n zs w h (by omega) (exp_R hp)).mono ?_
  rintro r w' ⟨v, rfl, ho, hb⟩
  have e : BestJury_L zs = (nv (bI zs n (2 ^ n)), chL (mj (sh zs (bI zs n (2 ^ n)))) (bI zs n (2 ^ n)).length, 0) := by simp [BestJury_L, hp, hn]
  rw [e] at ho ⊢
  refine ⟨v, bI zs n (2 ^ n), rfl, ?_, hj, hb⟩
  have : (nv (bI zs n (2 ^ n))).length = (bI zs n (2 ^ n)).length := nv_len _
  rw [← this]; exact ho
theorem VE_ok (A : Option Addr) (c n : Nat) (zs : List Int) (w : World) (h : Rd w w.heap.size 1 A n (iv zs)) (hp : expB zs = true) :
    Calls Try.prog 11 #[.slice A n c] w fun e w' => e = .returned (.bool true) ∧ w = w' := by
  have E := expB_t hp
  rw [h.len] at E
  have := ValidExperts_any A c n _ zs w h (by omega)
  rw [hp] at this; exact this
theorem take_next {α : Type} {l : List α} {i : Nat} {x : α} (h : l[i]? = some x) : l.take (i + 1) = l.take i ++ [x] := by
  obtain ⟨hi, e⟩ := List.getElem?_eq_some_iff.1 h
  rw [List.take_succ_eq_append_getElem hi, e]
theorem sh_add (zs : List Int) (m : List Nat) (a : Nat) : sh zs (m ++ [a]) = sh zs m ++ [zs.getD a 0] := by simp [sh]
theorem sorted_get {b : List Nat} (h : b.Pairwise (· < ·)) {i j x y : Nat} (hi : b[i]? = some x) (hj : b[j]? = some y) (hij : i < j) : x < y := by
  obtain ⟨h1, rfl⟩ := List.getElem?_eq_some_iff.1 hi
  obtain ⟨h2, rfl⟩ := List.getElem?_eq_some_iff.1 hj
  exact List.pairwise_iff_getElem.1 h i j h1 h2 hij
def pF (bs : List Int) (k i : Nat) : Bool := rAt bs (10 * (k : Int) + i) 2 == 1
set_option maxRecDepth 100000 in
set_option maxHeartbeats 80000000 in
theorem FnExperts_walk (v0 v1 : Value) (w : World) (i0 : IsU8S w v0) (i1 : IsU8S w v1) :
    Calls Try.prog 3 #[v0, v1] w fun e w' => e = .returned (.bool true) ∧ Below w.heap.size w w' := by
  obtain ⟨A0, n0, c0, bs0, rfl, m0, R0, hb0⟩ := i0
  obtain ⟨A1, n1, c1, bs1, rfl, m1, R1, hb1⟩ := i1
  have M0 := Lib.hid m0
  have M1 := Lib.hid m1
  have H0 := Lib.hid R0
  have H1 := Lib.hid R1
  have HB0 := Lib.hid hb0
  have HB1 := Lib.hid hb1
  clear R0 R1 hb0 hb1 m0 m1
  rcases Nat.lt_or_ge 1048576 n0 with nn0 | nn0
  · go_enter Try.func3, Try.ntmps3
    go_wp2_with ((go_at_call 5; refine (r8Long_any _ _ _ _ _ _ _ M0.out M1.out).mono ?_; rintro e w' ⟨rfl, rfl⟩))
    go_ret
    exact ⟨rfl, Below.refl _ _⟩
  rcases Nat.lt_or_ge 1048576 n1 with nn1 | nn1
  · go_enter Try.func3, Try.ntmps3
    go_wp2_with ((go_at_call 5; refine (r8Long_any _ _ _ _ _ _ _ M0.out M1.out).mono ?_; rintro e w' ⟨rfl, rfl⟩))
    go_ret
    exact ⟨rfl, Below.refl _ _⟩
  go_enter Try.func3, Try.ntmps3
  go_wp2_with ((go_at_call 5; refine (r8Long_any _ _ _ _ _ _ _ M0.out M1.out).mono ?_; rintro e w' ⟨rfl, rfl⟩))
  refine (R8Experts_any A0 c0 n0 bs0 w H0.out HB0.out nn0).mono ?_
  rintro r w1 ⟨v, zs, rfl, ho, hz, l1, l5, hb⟩
  obtain ⟨A, c, rfl⟩ := own_val ho
  obtain ⟨n, hn⟩ : ∃ n, n = zs.length := ⟨_, rfl⟩
  have HP := Lib.hid (exp_ok (zs_shOk hz) l1 l5)
  have SH := Lib.hid (zs_shOk hz)
  rw [← hn] at ho l1 l5 ⊢
  have HN := Lib.hid hn.symm
  have R1 := Lib.hid (Rd.own ho)
  have b1 := Lib.hid hb
  clear ho hz hb hn
  have WA := wy_all SH.out
  have E1 := exS_end SH.out (by rw [HN.out]; exact l1)
  have E2 := exS_pre (zs := zs) (n := zs.length) (by rw [HN.out]; exact l1) WA
  have mt := mj_thou SH.out
  have ma := mj_any SH.out
  rw [HN.out] at WA E1 E2 mt ma
  have t1 := thou_1 l1
  have tb := thou_le l5
  have cb := chL_bd l1 mt.1 mt.2
  have ca := chL_le mt.1 ma n
  obtain ⟨sm, hsm⟩ : ∃ x, x = mj zs := ⟨_, rfl⟩
  obtain ⟨al, hal⟩ : ∃ x, x = thou n := ⟨_, rfl⟩
  obtain ⟨C, hC⟩ : ∃ x, x = chL (mj zs) n := ⟨_, rfl⟩
  obtain ⟨on, hon⟩ : ∃ x, x = chL (frTo zs n 1 n) n := ⟨_, rfl⟩
  rw [← hC] at E1 cb ca
  rw [← hon] at ca
  rw [← hsm, ← hal] at mt
  rw [← hal] at t1 tb
  have XB : Hid (∀ k, 0 ≤ chL (wy zs n k) n ∧ chL (wy zs n k) n ≤ 1000000) := Lib.hid fun k => chL_bd l1 (WA k).1 (WA k).2
  have EP : Hid (∀ k, k ≤ n + 1 → 0 ≤ exS zs n k ∧ exS zs n k ≤ 6000000 ∧ 0 ≤ moS zs n k ∧ moS zs n k ≤ 6000000) := Lib.hid fun k hk => by have := E2 k; omega
  have EE := Lib.hid E1
  have C1 := MajorityWays_ok A c n zs w1 R1.out HP.out
  rw [← hsm, ← hal] at C1
  have HC := Lib.hid hC
  have HON := Lib.hid hon
  clear ma WA E2 E1 hsm hal hC hon
  go_wp2_with fail
  refine C1.mono ?_
  rintro r w2 ⟨rfl, hb2⟩
  have R2 := Lib.hid (R1.out.next hb2)
  have b2 := Lib.hid (below_more b1.out hb2 (Nat.le_refl _))
  have C2 := MC_i A c n zs w2 R2.out HP.out
  rw [← HC.out] at C2
  clear hb2 C1 R1 b1
  go_wp2_with fail
  refine C2.mono ?_
  rintro r w3 ⟨rfl, hb3⟩
  have R3 := Lib.hid (R2.out.next hb3)
  have b3 := Lib.hid (below_more b2.out hb3 (Nat.le_refl _))
  have C3 := AnyChance_ok A c n zs w3 R3.out HP.out
  rw [← HON.out] at C3
  clear hb3 C2 R2 b2
  go_wp2_with fail
  refine C3.mono ?_
  rintro r w4 ⟨rfl, hb4⟩
  have R4 := Lib.hid (R3.out.next hb4)
  have b4 := Lib.hid (below_more b3.out hb4 (Nat.le_refl _))
  have C4 := BJ_ok A c n zs w4 R4.out HP.out
  clear hb4 C3 R3 b3
  go_wp2_with fail
  refine C4.mono ?_
  rintro r w5 ⟨vj, b, rfl, oj, hbest, hb5⟩
  have R5 := Lib.hid (R4.out.next hb5)
  have b5 := Lib.hid (below_more b4.out hb5 (Nat.le_refl _))
  obtain ⟨AJ, cj, rfl⟩ := own_val oj
  have lo := lst_odd hbest.1
  have bf := best_facts SH.out HN.out l1 l5 hbest
  obtain ⟨p, hp⟩ := lo.2.2
  have SO : Hid (b.Pairwise (· < ·)) := Lib.hid (hp ▸ mems_sorted p n)
  have BN : Hid (∀ (i a : Nat), b[i]? = some a → a < n) := Lib.hid fun i a hi => mems_lt (p := p) (i := n) (hp ▸ List.mem_of_getElem? hi)
  have RJ := Lib.hid (Rd.own oj)
  obtain ⟨lb, hlb⟩ : ∃ x, x = b.length := ⟨_, rfl⟩
  have EB := Lib.hid (exp_ok (sh_ok SH.out b) (by rw [sh_len]; omega) (by rw [sh_len]; omega))
  have lo1 := lo.1
  have lo2 := lo.2.1
  rw [← hlb] at lo1 lo2 bf RJ ⊢
  obtain ⟨be, hbe⟩ : ∃ x, x = chL (mj (sh zs b)) lb := ⟨_, rfl⟩
  rw [← hbe, ← HC.out] at bf
  rw [← hbe]
  have LB := Lib.hid hlb.symm
  have HBE := Lib.hid hbe
  have beb : 0 ≤ be ∧ be ≤ 1000000 := by
    have q := mj_thou (sh_ok SH.out b)
    rw [sh_len, ← hlb] at q
    rw [hbe]; exact chL_bd (by omega) q.1 q.2
  have BF := Lib.hid bf
  clear bf hb5 C4 R4 b4 hbest lo hp oj hlb hbe
  have lo3 : (lb : Int) % 2 = 1 := by omega
  have lo5 : decide (n < lb) = false := decide_eq_false (by omega)
  have lo6 : ¬ n < lb := by omega
  have CV := VE_ok A c n zs w5 R5.out HP.out
  go_wp2_with ((go_at_call 11; refine (CV).mono ?_; rintro e w' ⟨rfl, rfl⟩))
  clear CV beb
  have W5 := Lib.hid (Below.refl w5.heap.size w5)
  have n6 : (n : Int) ≤ 5 := by omega
  go_loopw [19, 17, 18] (fun kv sv mv wr => ∃ (k : Nat) (S T : Int), k ≤ n + 1 ∧ kv = .int .i64 k ∧ sv = .int .i64 S ∧ mv = .int .i64 T ∧ Hid (S = exS zs n k) ∧ Hid (T = moS zs n k) ∧ (0 ≤ S ∧ S ≤ 6000000) ∧ (0 ≤ T ∧ T ≤ 6000000) ∧ Hid (Below w5.heap.size w5 wr)) (fun kv _ _ _ => n + 1 - (intOf kv).toNat)
  case atStart => exact ⟨0, 0, 0, by omega, rfl, rfl, rfl, Lib.hid rfl, Lib.hid rfl, by omega, by omega, W5⟩
  case round =>
    obtain ⟨k, S, T, hk, rfl, rfl, rfl, HS, HT, Sb, Tb, hb⟩ := hrel
    by_cases hlt : k ≤ n
    · have CE := ExactlyChance_ok A c n k zs wr (R5.out.next hb.out) HP.out hlt
      obtain ⟨X, hX⟩ : ∃ X, X = chL (wy zs n k) n := ⟨_, rfl⟩
      have xb := XB.out k
      rw [← hX] at CE xb
      have e1 : S + X = exS zs n (k + 1) := by rw [exS, HS.out, hX]
      have e2 : (if n < 2 * k then T + X else T) = moS zs n (k + 1) := by rw [moS, HT.out, hX]; split <;> omega
      have E1 := Lib.hid e1
      have E2 := Lib.hid e2
      have nb := EP.out (k + 1) (by omega)
      rw [← e1, ← e2] at nb
      clear hX e1 e2
      go_wp2_with fail
      refine CE.mono ?_
      rintro r w6 ⟨rfl, hb6⟩
      have B6 := Lib.hid (below_more hb.out hb6 (Nat.le_refl _))
      clear CE hb6
      by_cases h2 : n < 2 * k
      · rw [if_pos h2] at nb
        have E3 : Hid (T + X = moS zs n (k + 1)) := Lib.hid (by have := E2.out; rw [if_pos h2] at this; exact this)
        have h3 : (n : Int) < 2 * (k : Int) := by omega
        go_wp2
        go_roundw
        case rel => exact ⟨k + 1, S + X, T + X, by omega, by go_num, rfl, rfl, E1, E3, by omega, by omega, B6⟩
        case measure => simp [intOf]; omega
      · rw [if_neg h2] at nb
        have E3 : Hid (T = moS zs n (k + 1)) := Lib.hid (by have := E2.out; rw [if_neg h2] at this; exact this)
        have h3 : ¬ (n : Int) < 2 * (k : Int) := by omega
        go_wp2
        go_roundw
        case rel => exact ⟨k + 1, S + X, T, by omega, by go_num, rfl, rfl, E1, E3, by omega, by omega, B6⟩
        case measure => simp [intOf]; omega
    · obtain rfl : k = n + 1 := by omega
      have ee := EE.out
      rw [← HS.out, ← HT.out] at ee
      clear HS HT EE EP
      have O7 := (own_empty wr 2).mono (base' := w5.heap.size) hb.out.size
      have B7 := Lib.hid (hb.out.alloc (by exact hb.out.size) (.cells #[] 2))
      have O7 := Lib.hid O7
      go_wp2_with fail
      generalize wr.alloc (.cells #[] 2) = w7 at O7 B7 ⊢
      go_loopw [23, 22] (fun iv_ v wr => ∃ i : Nat, i ≤ lb ∧ iv_ = .int .i64 i ∧ Hid (wr.ownsRow w5.heap.size 2 1 v (sh zs (b.take i)).length (iv (sh zs (b.take i)))) ∧ Hid (Below w5.heap.size w5 wr)) (fun iv_ _ _ => lb - (intOf iv_).toNat)
      case atStart => exact ⟨0, by omega, rfl, O7, B7⟩
      case round =>
        obtain ⟨i, hi, rfl, O, hb⟩ := hrel
        by_cases hlt : i < lb
        · obtain ⟨a, ha, _⟩ := getD_of (l := b) (i := i) (by rw [LB.out]; exact hlt)
          have an := BN.out i a ha
          obtain ⟨z, hz, _⟩ := getD_of (l := zs) (i := a) (by rw [HN.out]; exact an)
          obtain ⟨bj, oj, rfl, hjB, hcj⟩ := RJ.out.ints (by omega)
          obtain ⟨bl, ol, rfl, hlB, hcl⟩ := R5.out.ints (by omega)
          have c0 : wr.cell? ⟨bj, oj + i, none⟩ = some (.int .i64 a) := (hb.out.cell (p := ⟨bj, oj + i, none⟩) hjB).trans (hcj i _ (nv_get ha))
          have c1 : wr.cell? ⟨bl, ol + a, none⟩ = some (.int .i64 z) := (hb.out.cell (p := ⟨bl, ol + a, none⟩) hlB).trans (hcl a z hz)
          have g1 : decide ((a : Int) < 0) = false := decide_eq_false (by omega)
          have g2 : decide ((n : Int) ≤ a) = false := decide_eq_false (by omega)
          have g2' : decide (n ≤ a) = false := decide_eq_false (by omega)
          have g3 : (0 : Int) ≤ i := by omega
          have g4 : (i : Int) < lb := by omega
          have E1 : Hid (sh zs (b.take i) ++ [z] = sh zs (b.take (i + 1))) := Lib.hid (by rw [take_next ha, sh_add, getD_is hz])
          have il : (sh zs (b.take i)).length ≤ 1099511627776 := by rw [sh_len, List.length_take, LB.out]; omega
          have hsz := hb.out.size
          have C0 := Lib.hid (hcj i _ (nv_get ha))
          have C1 := Lib.hid (hcl a z hz)
          by_cases i0 : i = 0
          · have g5 : decide ((0 : Int) < i) = false := decide_eq_false (by omega)
            have g9 : decide (0 < i) = false := decide_eq_false (by omega)
            clear hcj hcl ha hz i0
            go_wp2_with fail
            (refine wp_region_quiet_lit (by kernel_rfl) (by kernel_rfl) ?_; (repeat (go_big_quiet_step ((fail)))); refine wpQuiet_nil ?_; intro _ hw'; obtain ⟨nq, hw''⟩ := hw'; subst hw'')
            go_wp2_with (at_builtin; refine app1 rfl (.tmp 199) (.tmp 207) rfl w5.heap.size u22 (sh zs (b.take i)) z rfl (show (wr.drewN nq).ownsRow _ _ _ _ _ _ from O.out) rfl (by simpa using hsz) il ?_; intro v9 w9 o9 b9; rw [E1.out] at o9; have O9 := Lib.hid o9; have B9 := Lib.hid ((below_drewN hb.out nq).trans b9); clear o9 b9)
            go_roundw
            case rel => exact ⟨i + 1, by omega, by go_num, O9, B9⟩
            case measure => simp [intOf]; omega
          · obtain ⟨a', ha', _⟩ := getD_of (l := b) (i := i - 1) (by rw [LB.out]; omega)
            have lt := sorted_get SO.out ha' ha (by omega)
            have g5 : decide ((0 : Int) < i) = true := decide_eq_true (by omega)
            have g6 : decide ((a : Int) ≤ a') = false := decide_eq_false (by omega)
            have g6' : decide (a ≤ a') = false := decide_eq_false (by omega)
            have w1 : IntKind.i64.wrap ((i : Int) - 1) = ((i - 1 : Nat) : Int) := by rw [IntWalk.i64_in _ (by omega)]; omega
            have c2 : wr.cell? ⟨bj, oj + (i - 1), none⟩ = some (.int .i64 a') := (hb.out.cell (p := ⟨bj, oj + (i - 1), none⟩) hjB).trans (hcj (i - 1) _ (nv_get ha'))
            obtain ⟨i', hi'⟩ : ∃ i', i' = i - 1 := ⟨_, rfl⟩
            rw [← hi'] at c2 w1
            have g7 : (0 : Int) ≤ i' := by omega
            have g8 : (i' : Int) < lb := by omega
            have g9 : decide (0 < i) = true := decide_eq_true (by omega)
            clear hcj hcl ha hz ha' hi' lt i0
            go_wp2_with fail
            (refine wp_region_quiet_lit (by kernel_rfl) (by kernel_rfl) ?_; (repeat (go_big_quiet_step ((fail)))); refine wpQuiet_nil ?_; intro _ hw'; obtain ⟨nq, hw''⟩ := hw'; subst hw'')
            go_wp2_with (at_builtin; refine app1 rfl (.tmp 199) (.tmp 207) rfl w5.heap.size u22 (sh zs (b.take i)) z rfl (show (wr.drewN nq).ownsRow _ _ _ _ _ _ from O.out) rfl (by simpa using hsz) il ?_; intro v9 w9 o9 b9; rw [E1.out] at o9; have O9 := Lib.hid o9; have B9 := Lib.hid ((below_drewN hb.out nq).trans b9); clear o9 b9)
            go_roundw
            case rel => exact ⟨i + 1, by omega, by go_num, O9, B9⟩
            case measure => simp [intOf]; omega
        · obtain rfl : i = lb := by omega
          have hO := O.out
          rw [List.take_of_length_le (by rw [LB.out]; exact Nat.le_refl _), sh_len, LB.out] at hO
          obtain ⟨AS, cs, rfl⟩ := own_val hO
          have CM := MC_s AS cs i (sh zs b) wr (Rd.own hO) EB.out
          rw [← HBE.out] at CM
          clear O hO
          go_wp2_with fail
          refine CM.mono ?_
          rintro r w8 ⟨rfl, hb8⟩
          have B8 := Lib.hid (below_more hb.out hb8 (Nat.le_refl _))
          have BO : Hid ((n : Int) % 2 = 1 → C ≤ be) := Lib.hid fun h => BF.out.1 (by omega)
          have BL := Lib.hid BF.out.2.1
          have BP := Lib.hid BF.out.2.2
          clear CM hb8
          rcases (show (n : Int) % 2 = 0 ∨ (n : Int) % 2 = 1 by omega) with nm | nm
          · skip
            go_wp2_with fail
            clear nm
            go_loopw [26] (fun iv_ wr => ∃ i : Nat, i ≤ n ∧ iv_ = .int .i64 i ∧ Hid (Below w5.heap.size w5 wr)) (fun iv_ _ => n - (intOf iv_).toNat)
            case atStart => exact ⟨0, by omega, rfl, B8⟩
            case round =>
              obtain ⟨i, hi, rfl, hb⟩ := hrel
              by_cases hlt : i < n
              · obtain ⟨z, hz, _⟩ := getD_of (l := zs) (i := i) (by rw [HN.out]; exact hlt)
                have zl := BL.out i hlt
                have zb := shOk_all SH.out i
                rw [getD_is hz] at zl zb
                obtain ⟨bl, ol, rfl, hlB, hcl⟩ := R5.out.ints (by omega)
                have c1 : wr.cell? ⟨bl, ol + i, none⟩ = some (.int .i64 z) := (hb.out.cell (p := ⟨bl, ol + i, none⟩) hlB).trans (hcl i z hz)
                clear hcl hz
                go_wp2
                go_roundw
                case rel => exact ⟨i + 1, by omega, by go_num, hb⟩
                case measure => simp [intOf]; omega
              · obtain rfl : i = n := by omega
                go_wp2_with fail
                go_loopw [27] (fun kv wr => ∃ k : Nat, k ≤ 3 ∧ kv = .int .i64 k ∧ Hid (Below w5.heap.size w5 wr)) (fun kv _ => 3 - (intOf kv).toNat)
                case atStart => exact ⟨0, by omega, rfl, hb⟩
                case round =>
                  obtain ⟨k, hk, rfl, hb⟩ := hrel
                  by_cases hlt : k < 3
                  · have g0 : decide ((k : Int) < 3) = true := decide_eq_true (by omega)
                    have O9 := Lib.hid ((own_empty wr 2).mono (base' := w5.heap.size) hb.out.size)
                    have B9 := Lib.hid (hb.out.alloc (by exact hb.out.size) (.cells #[] 2))
                    go_wp2_with fail
                    generalize wr.alloc (.cells #[] 2) = w9 at O9 B9 ⊢
                    have HLT := Lib.hid hlt
                    have K3 : Hid (k ≤ 2) := Lib.hid (by omega)
                    have k2 : (k : Int) ≤ 2 := by omega
                    clear hlt hk
                    obtain ⟨p, HPP⟩ : ∃ p : Nat → Bool, Hid (p = pF bs1 k) := ⟨pF bs1 k, Lib.hid rfl⟩
                    go_loopw [29, 28] (fun iv_ v wr => ∃ j : Nat, j ≤ i ∧ iv_ = .int .i64 j ∧ Hid (wr.ownsRow w5.heap.size 2 1 v (sh zs (mems p j)).length (iv (sh zs (mems p j)))) ∧ Hid (Below w5.heap.size w5 wr)) (fun iv_ _ _ => i - (intOf iv_).toNat)
                    case atStart => exact ⟨0, by omega, rfl, O9, B9⟩
                    case round =>
                      obtain ⟨j, hj, rfl, O, hb⟩ := hrel
                      by_cases hlt2 : j < i
                      · have CR := r8At_any A1 c1 n1 w.heap.size bs1 (10 * (k : Int) + j) 2 wr (H1.out.below (below_more b5.out hb.out (Nat.le_refl _))) HB1.out nn1 (by omega) (by have := K3.out; omega) (by omega) (by omega)
                        obtain ⟨q, hq⟩ : ∃ q, q = rAt bs1 (10 * (k : Int) + j) 2 := ⟨_, rfl⟩
                        have qb := rAt_bd bs1 (10 * (k : Int) + j) (m := 2) (by omega)
                        have hpj : p j = (rAt bs1 (10 * (k : Int) + j) 2 == 1) := by rw [HPP.out, pF]
                        rw [← hq] at CR qb hpj
                        have HPJ := Lib.hid hpj
                        clear hq hpj
                        go_wp2_with fail
                        refine CR.mono ?_
                        rintro r w' ⟨rfl, rfl⟩
                        clear CR
                        rcases (show q = 0 ∨ q = 1 by omega) with rfl | rfl
                        · have HM : Hid (mems p (j + 1) = mems p j) := Lib.hid (mems_f (by rw [HPJ.out]; rfl))
                          go_wp2
                          go_roundw
                          case rel => exact ⟨j + 1, by omega, by go_num, by rw [HM.out]; exact O, hb⟩
                          case measure => simp [intOf]; omega
                        · obtain ⟨z, hz, _⟩ := getD_of (l := zs) (i := j) (by rw [HN.out]; exact hlt2)
                          have E1 : Hid (sh zs (mems p j) ++ [z] = sh zs (mems p (j + 1))) := Lib.hid (by rw [mems_t (by rw [HPJ.out]; rfl), sh_add, getD_is hz])
                          obtain ⟨bl, ol, rfl, hlB, hcl⟩ := R5.out.ints (by omega)
                          have c1 : wr.cell? ⟨bl, ol + j, none⟩ = some (.int .i64 z) := (hb.out.cell (p := ⟨bl, ol + j, none⟩) hlB).trans (hcl j z hz)
                          have il : (sh zs (mems p j)).length ≤ 1099511627776 := by rw [sh_len]; have := mems_len p j; omega
                          have hsz := hb.out.size
                          have HLT := Lib.hid hlt2
                          clear hcl hz
                          go_wp2_with (at_builtin; refine app1 rfl (.tmp 260) (.tmp 265) rfl w5.heap.size u28 (sh zs (mems p j)) z rfl O.out rfl hsz il ?_; intro v9 w9 o9 b9; rw [E1.out] at o9; have O9 := Lib.hid o9; have B9 := Lib.hid (hb.out.trans b9); clear o9 b9)
                          go_roundw
                          case rel => exact ⟨j + 1, by omega, by go_num, O9, B9⟩
                          case measure => simp [intOf]; omega
                      · obtain rfl : j = i := by omega
                        have hO := O.out
                        rw [sh_len] at hO
                        obtain ⟨AS, cs, rfl⟩ := own_val hO
                        have ml := mems_len p j
                        have bp := BP.out p
                        obtain ⟨lm, hlm⟩ : ∃ lm, lm = (mems p j).length := ⟨_, rfl⟩
                        have HLM := Lib.hid hlm
                        rw [← hlm] at ml bp hO ⊢
                        have RO := Lib.hid (Rd.own hO)
                        have BPP := Lib.hid bp
                        clear hO hlm bp O
                        by_cases hodd : lm % 2 = 1
                        · have r1 : (lm : Int) % 2 = 1 := by omega
                          have CM := MC_s AS cs lm (sh zs (mems p j)) wr RO.out (exp_ok (sh_ok SH.out _) (by rw [sh_len, ← HLM.out]; omega) (by rw [sh_len, ← HLM.out]; omega))
                          have bx := BPP.out hodd
                          obtain ⟨x, hx⟩ : ∃ x, x = chL (mj (sh zs (mems p j))) lm := ⟨_, rfl⟩
                          rw [← hx] at CM bx
                          clear hx
                          go_wp2_with fail
                          refine CM.mono ?_
                          rintro r w10 ⟨rfl, hb10⟩
                          have B10 := Lib.hid (below_more hb.out hb10 (Nat.le_refl _))
                          clear CM hb10
                          go_wp2
                          go_roundw
                          case rel => exact ⟨k + 1, by have := K3.out; omega, by go_num, B10⟩
                          case measure => have := K3.out; simp [intOf]; omega
                        · have r1 : (lm : Int) % 2 = 0 := by omega
                          go_wp2
                          go_roundw
                          case rel => exact ⟨k + 1, by have := K3.out; omega, by go_num, hb⟩
                          case measure => have := K3.out; simp [intOf]; omega
                  · obtain rfl : k = 3 := by omega
                    go_wp2
                    go_ret
                    exact ⟨rfl, below_more b5.out hb.out (Nat.le_refl _)⟩
          · have bo := BO.out nm
            go_wp2_with fail
            clear nm
            go_loopw [26] (fun iv_ wr => ∃ i : Nat, i ≤ n ∧ iv_ = .int .i64 i ∧ Hid (Below w5.heap.size w5 wr)) (fun iv_ _ => n - (intOf iv_).toNat)
            case atStart => exact ⟨0, by omega, rfl, B8⟩
            case round =>
              obtain ⟨i, hi, rfl, hb⟩ := hrel
              by_cases hlt : i < n
              · obtain ⟨z, hz, _⟩ := getD_of (l := zs) (i := i) (by rw [HN.out]; exact hlt)
                have zl := BL.out i hlt
                have zb := shOk_all SH.out i
                rw [getD_is hz] at zl zb
                obtain ⟨bl, ol, rfl, hlB, hcl⟩ := R5.out.ints (by omega)
                have c1 : wr.cell? ⟨bl, ol + i, none⟩ = some (.int .i64 z) := (hb.out.cell (p := ⟨bl, ol + i, none⟩) hlB).trans (hcl i z hz)
                clear hcl hz
                go_wp2
                go_roundw
                case rel => exact ⟨i + 1, by omega, by go_num, hb⟩
                case measure => simp [intOf]; omega
              · obtain rfl : i = n := by omega
                go_wp2_with fail
                go_loopw [27] (fun kv wr => ∃ k : Nat, k ≤ 3 ∧ kv = .int .i64 k ∧ Hid (Below w5.heap.size w5 wr)) (fun kv _ => 3 - (intOf kv).toNat)
                case atStart => exact ⟨0, by omega, rfl, hb⟩
                case round =>
                  obtain ⟨k, hk, rfl, hb⟩ := hrel
                  by_cases hlt : k < 3
                  · have g0 : decide ((k : Int) < 3) = true := decide_eq_true (by omega)
                    have O9 := Lib.hid ((own_empty wr 2).mono (base' := w5.heap.size) hb.out.size)
                    have B9 := Lib.hid (hb.out.alloc (by exact hb.out.size) (.cells #[] 2))
                    go_wp2_with fail
                    generalize wr.alloc (.cells #[] 2) = w9 at O9 B9 ⊢
                    have HLT := Lib.hid hlt
                    have K3 : Hid (k ≤ 2) := Lib.hid (by omega)
                    have k2 : (k : Int) ≤ 2 := by omega
                    clear hlt hk
                    obtain ⟨p, HPP⟩ : ∃ p : Nat → Bool, Hid (p = pF bs1 k) := ⟨pF bs1 k, Lib.hid rfl⟩
                    go_loopw [29, 28] (fun iv_ v wr => ∃ j : Nat, j ≤ i ∧ iv_ = .int .i64 j ∧ Hid (wr.ownsRow w5.heap.size 2 1 v (sh zs (mems p j)).length (iv (sh zs (mems p j)))) ∧ Hid (Below w5.heap.size w5 wr)) (fun iv_ _ _ => i - (intOf iv_).toNat)
                    case atStart => exact ⟨0, by omega, rfl, O9, B9⟩
                    case round =>
                      obtain ⟨j, hj, rfl, O, hb⟩ := hrel
                      by_cases hlt2 : j < i
                      · have CR := r8At_any A1 c1 n1 w.heap.size bs1 (10 * (k : Int) + j) 2 wr (H1.out.below (below_more b5.out hb.out (Nat.le_refl _))) HB1.out nn1 (by omega) (by have := K3.out; omega) (by omega) (by omega)
                        obtain ⟨q, hq⟩ : ∃ q, q = rAt bs1 (10 * (k : Int) + j) 2 := ⟨_, rfl⟩
                        have qb := rAt_bd bs1 (10 * (k : Int) + j) (m := 2) (by omega)
                        have hpj : p j = (rAt bs1 (10 * (k : Int) + j) 2 == 1) := by rw [HPP.out, pF]
                        rw [← hq] at CR qb hpj
                        have HPJ := Lib.hid hpj
                        clear hq hpj
                        go_wp2_with fail
                        refine CR.mono ?_
                        rintro r w' ⟨rfl, rfl⟩
                        clear CR
                        rcases (show q = 0 ∨ q = 1 by omega) with rfl | rfl
                        · have HM : Hid (mems p (j + 1) = mems p j) := Lib.hid (mems_f (by rw [HPJ.out]; rfl))
                          go_wp2
                          go_roundw
                          case rel => exact ⟨j + 1, by omega, by go_num, by rw [HM.out]; exact O, hb⟩
                          case measure => simp [intOf]; omega
                        · obtain ⟨z, hz, _⟩ := getD_of (l := zs) (i := j) (by rw [HN.out]; exact hlt2)
                          have E1 : Hid (sh zs (mems p j) ++ [z] = sh zs (mems p (j + 1))) := Lib.hid (by rw [mems_t (by rw [HPJ.out]; rfl), sh_add, getD_is hz])
                          obtain ⟨bl, ol, rfl, hlB, hcl⟩ := R5.out.ints (by omega)
                          have c1 : wr.cell? ⟨bl, ol + j, none⟩ = some (.int .i64 z) := (hb.out.cell (p := ⟨bl, ol + j, none⟩) hlB).trans (hcl j z hz)
                          have il : (sh zs (mems p j)).length ≤ 1099511627776 := by rw [sh_len]; have := mems_len p j; omega
                          have hsz := hb.out.size
                          have HLT := Lib.hid hlt2
                          clear hcl hz
                          go_wp2_with (at_builtin; refine app1 rfl (.tmp 260) (.tmp 265) rfl w5.heap.size u28 (sh zs (mems p j)) z rfl O.out rfl hsz il ?_; intro v9 w9 o9 b9; rw [E1.out] at o9; have O9 := Lib.hid o9; have B9 := Lib.hid (hb.out.trans b9); clear o9 b9)
                          go_roundw
                          case rel => exact ⟨j + 1, by omega, by go_num, O9, B9⟩
                          case measure => simp [intOf]; omega
                      · obtain rfl : j = i := by omega
                        have hO := O.out
                        rw [sh_len] at hO
                        obtain ⟨AS, cs, rfl⟩ := own_val hO
                        have ml := mems_len p j
                        have bp := BP.out p
                        obtain ⟨lm, hlm⟩ : ∃ lm, lm = (mems p j).length := ⟨_, rfl⟩
                        have HLM := Lib.hid hlm
                        rw [← hlm] at ml bp hO ⊢
                        have RO := Lib.hid (Rd.own hO)
                        have BPP := Lib.hid bp
                        clear hO hlm bp O
                        by_cases hodd : lm % 2 = 1
                        · have r1 : (lm : Int) % 2 = 1 := by omega
                          have CM := MC_s AS cs lm (sh zs (mems p j)) wr RO.out (exp_ok (sh_ok SH.out _) (by rw [sh_len, ← HLM.out]; omega) (by rw [sh_len, ← HLM.out]; omega))
                          have bx := BPP.out hodd
                          obtain ⟨x, hx⟩ : ∃ x, x = chL (mj (sh zs (mems p j))) lm := ⟨_, rfl⟩
                          rw [← hx] at CM bx
                          clear hx
                          go_wp2_with fail
                          refine CM.mono ?_
                          rintro r w10 ⟨rfl, hb10⟩
                          have B10 := Lib.hid (below_more hb.out hb10 (Nat.le_refl _))
                          clear CM hb10
                          go_wp2
                          go_roundw
                          case rel => exact ⟨k + 1, by have := K3.out; omega, by go_num, B10⟩
                          case measure => have := K3.out; simp [intOf]; omega
                        · have r1 : (lm : Int) % 2 = 0 := by omega
                          go_wp2
                          go_roundw
                          case rel => exact ⟨k + 1, by have := K3.out; omega, by go_num, hb⟩
                          case measure => have := K3.out; simp [intOf]; omega
                  · obtain rfl : k = 3 := by omega
                    go_wp2
                    go_ret
                    exact ⟨rfl, below_more b5.out hb.out (Nat.le_refl _)⟩
end Go.Proofs.Ytednmmmnkcbpjaa
