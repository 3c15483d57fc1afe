/- The best jury: the program's and the reference's functions. -/
import Derived.Test.YtednmmmnkcbpjaaJuryP
import Derived.Test.YtednmmmnkcbpjaaApp
import Derived.Maps.AppendAt
import Derived.Deep.Onto
set_option linter.unusedVariables false
namespace Go.Proofs.Ytednmmmnkcbpjaa
open Go.RowKit

/-- append of one number, and where the row lies -/
theorem app1a {w : World} {ops : Array Oper} {rest : List Oper} {o : Oper} {a : Act} {Q : Exit → Act → World → Prop} (hgd : o.guard = none) (s x : Operand)
    (ho : o.op = .call { callee := .builtin .append, args := #[s, x], argTypes := #[24, 24] }) (L : Nat) (v : Value) (zs : List Int) (z : Int) (hs : a.eval s = v) (hown : w.ownsRow L 2 1 v zs.length (iv zs))
    (H : Nat) (hH : w.heap.size = H) (hx : a.eval x = .slice (some ⟨H, 0, none⟩) 1 1) (hL : L ≤ H) (hn : zs.length ≤ 1099511627776)
    (h : ∀ v' w', w'.ownsRow L 2 1 v' (zs ++ [z]).length (iv (zs ++ [z])) → Below L w w' → w.grownBy w' v.ownBlock → (v'.ownBlock = v.ownBlock ∨ v'.ownBlock = some (w.heap.size + 1)) → wpList Try.prog ops Q rest (a.put o.dst v') w') :
    wpList Try.prog ops Q (o :: rest) a (w.alloc (.cells #[.int .i64 z] 2)) := by
  subst hH
  obtain ⟨i0, hi, hz0, hz1, hz2⟩ := info_parts info64
  refine wpList_append_own_at _ hgd s x 24 ho L 2 i0 (.int .i64 0) 1 8 Try.underlying24 hi hz0 hz1 hz2 rfl (by decide) v zs.length (iv zs) hs (hown.alloc _) ⟨w.heap.size, 0, none⟩ 1 1 [.int .i64 z] hx rfl ?_ ?_ ?_ ?_ ?_ ?_
  · exact cell_one_new w _ _
  · intro u hu
    simp at hu
    subst hu
    rfl
  · unfold maxLen; omega
  · omega
  · simp; omega
  · intro v' w' h1 h2 _ h3
    refine h v' w' (by simpa [iv_append, iv] using h1) ?_ ?_ (by simpa using h3)
    · have b1 : Below L w (w.alloc (.cells #[.int .i64 z] 2)) := (Below.refl L w).alloc hL _
      exact b1.grown h2 (by simp; omega) fun k hk => (hown.lt k hk).1
    · exact (World.grownBy_alloc w _ _).trans h2
/-- two rows in blocks of their own -/
def Two (w : World) (L : Nat) (v1 v2 : Value) (n : Nat) (xs ys : List Value) : Prop := w.ownsRow L 2 1 v1 n xs ∧ w.ownsRow L 2 1 v2 n ys ∧ ∀ k, v1.ownBlock = some k → v2.ownBlock ≠ some k
theorem keep2 {w w' : World} {L n m : Nat} {v v' u : Value} {xs : List Value} (h : w.ownsRow L 2 1 u n xs) (hg : w.grownBy w' v.ownBlock) (ha : v'.ownBlock = v.ownBlock ∨ v'.ownBlock = some (w.heap.size + m)) (hs : ∀ k, v.ownBlock = some k → u.ownBlock ≠ some k) :
    w'.ownsRow L 2 1 u n xs ∧ ∀ k, v'.ownBlock = some k → u.ownBlock ≠ some k := by
  refine ⟨h.kept hg ?_, fun k hk e => ?_⟩
  · cases hv : u.ownBlock with
    | none => exact .inl rfl
    | some k => exact .inr fun e => hs k e.symm hv
  · rcases ha with ha | ha
    · exact hs k (ha ▸ hk) e
    · have := (h.lt k e).2
      rw [ha] at hk; injection hk with hk; omega
theorem bit1 : ∀ q : Nat, q < 32 → bits .and .i64 ((q : Nat) : Int) 1 = ((q % 2 : Nat) : Int) := by decide +kernel
theorem bit_is {s k : Nat} (hs : s < 32) : ∃ q : Int, (s : Int) / 2 ^ k = q ∧ bits .and .i64 q 1 = (if bitI s k = true then 1 else 0) := by
  refine ⟨((s / 2 ^ k : Nat) : Int), by push_cast; rfl, ?_⟩
  rw [bit1 _ (Nat.lt_of_le_of_lt (Nat.div_le_self _ _) hs)]
  have : s / 2 ^ k % 2 = 0 ∨ s / 2 ^ k % 2 = 1 := by omega
  rcases this with h | h <;> simp [bitI, h]
set_option maxRecDepth 20000 in
set_option maxHeartbeats 1000000 in
theorem juryOf_any (A : Option Addr) (c n s : Nat) (zs : List Int) (w : World) (h : Rd w w.heap.size 1 A n (iv zs)) (hn : n ≤ 5) (hs : s < 32) :
    Calls Try.prog 33 #[.slice A n c, .int .i64 s] w fun e w' => ∃ v1 v2, e = .returned (.agg #[v1, v2]) ∧ Two w' w.heap.size v1 v2 (mems (bitI s) n).length (iv (nv (mems (bitI s) n))) (iv (sh zs (mems (bitI s) n))) ∧ Below w.heap.size w w' := by
  have HN := Lib.hid h.len
  have H := Lib.hid h
  clear h
  have K0 := Lib.hid (Blk.new (w.alloc (.cells #[.slice none 0 0, .slice none 0 0] 56)) 56 #[.slice none 0 0, .slice none 0 0])
  have B0 := Lib.hid (((Below.refl w.heap.size w).alloc (Nat.le_refl _) (.cells #[.slice none 0 0, .slice none 0 0] 56)).alloc (by simp) (.cells #[.slice none 0 0, .slice none 0 0] 56))
  have R0 := Lib.hid ((Blk.new w 56 #[.slice none 0 0, .slice none 0 0]).alloc (.cells #[.slice none 0 0, .slice none 0 0] 56))
  rw [show (w.alloc (.cells #[.slice none 0 0, .slice none 0 0] 56)).heap.size = w.heap.size + 1 by simp] at K0
  go_enter Try.func33, Try.ntmps33
  go_wp2
  generalize (w.alloc (.cells #[.slice none 0 0, .slice none 0 0] 56)).alloc (.cells #[.slice none 0 0, .slice none 0 0] 56) = w0 at K0 B0 R0 ⊢
  go_loopw [11] (fun i wr => ∃ (k : Nat) (v1 v2 : Value), k ≤ n ∧ i = .int .i64 k ∧ Hid (Blk wr (w.heap.size + 1) 56 #[v1, v2]) ∧ Hid (Two wr (w.heap.size + 2) v1 v2 (mems (bitI s) k).length (iv (nv (mems (bitI s) k))) (iv (sh zs (mems (bitI s) k)))) ∧ Hid (Blk wr w.heap.size 56 #[.slice none 0 0, .slice none 0 0]) ∧ Hid (Below w.heap.size w wr)) (fun i _ => n - (intOf i).toNat)
  case atStart => exact ⟨0, _, _, Nat.zero_le _, rfl, K0, Lib.hid ⟨World.ownsRow_nil _ _ _ _, World.ownsRow_nil _ _ _ _, fun k hk => by simp [Value.ownBlock] at hk⟩, R0, B0⟩
  case round =>
    obtain ⟨k, v1, v2, hk, rfl, K, T, R, hb⟩ := hrel
    have hsz := hb.out.size
    have hgl := K.out.lt
    by_cases hlt : k < n
    · obtain ⟨z, hz, _⟩ := getD_of (l := zs) (i := k) (by rw [HN.out]; exact hlt)
      obtain ⟨b, o, rfl, hbB, hc⟩ := (H.out.below hb.out).ints (by omega)
      have c0 : wr.cell? ⟨b, o + k, none⟩ = some (.int .i64 z) := hc k z hz
      have c1 := K.out.cell 0
      have c2 := K.out.cell 1
      have HZ := Lib.hid hz
      obtain ⟨q, q1, q2⟩ := bit_is (s := s) (k := k) hs
      clear hc hz
      cases hbit : bitI s k
      · rw [if_neg (by simp [hbit])] at q2
        have HM := Lib.hid (mems_f hbit)
        go_wp2
        go_roundw
        case rel => exact ⟨k + 1, v1, v2, by omega, by go_num, K, by rw [HM.out]; exact T, R, hb⟩
        case measure => simp [intOf]; omega
      · rw [if_pos hbit] at q2
        have HM := Lib.hid (mems_t hbit)
        have ML := mems_len (bitI s) k
        have O1 := Lib.hid T.out.1
        have O2 := Lib.hid T.out.2.1
        have S0 := Lib.hid T.out.2.2
        have LN : Hid ((mems (bitI s) k).length = (nv (mems (bitI s) k)).length) := Lib.hid (nv_len _).symm
        have LS : Hid ((mems (bitI s) k).length = (sh zs (mems (bitI s) k)).length) := Lib.hid (sh_len _ _).symm
        have ln : (nv (mems (bitI s) k)).length ≤ 1099511627776 := by rw [← LN.out]; omega
        have ls : (sh zs (mems (bitI s) k)).length ≤ 1099511627776 := by rw [← LS.out]; omega
        obtain ⟨N1, hN⟩ : ∃ N, N = (mems (bitI s) (k + 1)).length := ⟨_, rfl⟩
        have HN1 := Lib.hid hN
        have E1 : Hid (nv (mems (bitI s) k) ++ [(k : Int)] = nv (mems (bitI s) (k + 1))) := Lib.hid (by rw [HM.out]; simp [nv])
        have E2 : Hid (sh zs (mems (bitI s) k) ++ [z] = sh zs (mems (bitI s) (k + 1))) := Lib.hid (by rw [HM.out]; have := getD_is (d := 0) HZ.out; simp [sh, List.getD] at this ⊢; rw [HZ.out]; rfl)
        clear hN
        go_wp2_with (at_builtin; first
          | (refine app1a rfl (.tmp 22) (.tmp 24) rfl (w.heap.size + 2) v1 (nv (mems (bitI s) k)) (k : Int) rfl (by rw [← LN.out]; exact O1.out) _ rfl rfl (by omega) ln ?_; intro v3 w3 o3 b3 g3 a3
             rw [E1.out, nv_len, ← HN1.out] at o3
             obtain ⟨A3, c3, rfl⟩ := own_val o3
             have K3 := Lib.hid (K.out.below b3 (by omega))
             have s3 := b3.size
             obtain ⟨p2, t3⟩ := keep2 O2.out g3 a3 S0.out
             have P2 := Lib.hid (ownsRow_setCell_below p2 (a := ⟨w.heap.size + 1, 0, none⟩) (by simp) (.slice A3 N1 c3))
             have T3 : Hid (∀ k, v2.ownBlock = some k → Value.ownBlock (.slice A3 N1 c3) ≠ some k) := Lib.hid fun k hk e => t3 k e hk
             have P3 := Lib.hid (ownsRow_setCell_below o3 (a := ⟨w.heap.size + 1, 0, none⟩) (by simp) (.slice A3 N1 c3))
             have B3 := Lib.hid ((hb.out.trans (b3.mono (by omega))).setCell (p := ⟨w.heap.size + 1, 0, none⟩) (by simp) (.slice A3 N1 c3))
             have K4 := Lib.hid (K3.out.set_ 0 (.slice A3 N1 c3))
             have R4 := Lib.hid ((R.out.below b3 (by omega)).far (p := ⟨w.heap.size + 1, 0, none⟩) (by simp) (.slice A3 N1 c3))
             clear R c1 c2 K o3 b3 g3 a3 p2 t3 hb T O1 O2 S0
             have c1 := K3.out.cell 0
             have c2 := K3.out.cell 1
             have f1 := K3.out.frozen 0)
          | (refine app1a rfl (.tmp 28) (.tmp 30) rfl (w.heap.size + 2) v2 (sh zs (mems (bitI s) k)) z rfl (by rw [← LS.out]; exact P2.out) w3.heap.size (by simp) rfl (by omega) ls ?_; intro v5 w5 o5 b5 g5 a5
             rw [E2.out, sh_len, ← HN1.out] at o5
             obtain ⟨A5, c5, rfl⟩ := own_val o5
             have K5 := Lib.hid (K4.out.below b5 (by omega))
             obtain ⟨p3, t5⟩ := keep2 P3.out g5 a5 T3.out
             have P5 := Lib.hid (ownsRow_setCell_below o5 (a := ⟨w.heap.size + 1, 1, none⟩) (by simp) (.slice A5 N1 c5))
             have P6 := Lib.hid (ownsRow_setCell_below p3 (a := ⟨w.heap.size + 1, 1, none⟩) (by simp) (.slice A5 N1 c5))
             have T5 : Hid (∀ k, Value.ownBlock (.slice A3 N1 c3) = some k → Value.ownBlock (.slice A5 N1 c5) ≠ some k) := Lib.hid fun k hk e => t5 k e hk
             have B5 := Lib.hid ((B3.out.trans (b5.mono (by omega))).setCell (p := ⟨w.heap.size + 1, 1, none⟩) (by simp) (.slice A5 N1 c5))
             have K6 := Lib.hid (K5.out.set_ 1 (.slice A5 N1 c5))
             have R6 := Lib.hid ((R4.out.below b5 (by omega)).far (p := ⟨w.heap.size + 1, 1, none⟩) (by simp) (.slice A5 N1 c5))
             clear R4 c1 c2 f1 K3 K4 o5 b5 g5 a5 p3 t5 P2 P3 B3 T3
             have c1 := K5.out.cell 0
             have c2 := K5.out.cell 1
             have f1 := K5.out.frozen 1))
        go_roundw
        case rel => exact ⟨k + 1, _, _, by omega, by go_num, K6, Lib.hid ⟨by rw [← HN1.out]; exact P6.out, by rw [← HN1.out]; exact P5.out, T5.out⟩, R6, B5⟩
        case measure => simp [intOf]; omega
    · obtain rfl : k = n := by omega
      have c1 := K.out.cell 0
      have c2 := K.out.cell 1
      have r1 := R.out.cell 0
      have r2 := R.out.cell 1
      have f1 := R.out.frozen 0
      have f2 := R.out.frozen 1
      have O1 := T.out.1
      have O2 := T.out.2.1
      obtain ⟨A1, d1, rfl⟩ := own_val O1
      obtain ⟨A2, d2, rfl⟩ := own_val O2
      have P1 := Lib.hid ((ownsRow_setCell_below (ownsRow_setCell_below O1 (a := ⟨w.heap.size, 0, none⟩) (by simp) (.slice A1 (mems (bitI s) k).length d1)) (a := ⟨w.heap.size, 1, none⟩) (by simp) (.slice A2 (mems (bitI s) k).length d2)).mono (base' := w.heap.size) (by omega))
      have P2 := Lib.hid ((ownsRow_setCell_below (ownsRow_setCell_below O2 (a := ⟨w.heap.size, 0, none⟩) (by simp) (.slice A1 (mems (bitI s) k).length d1)) (a := ⟨w.heap.size, 1, none⟩) (by simp) (.slice A2 (mems (bitI s) k).length d2)).mono (base' := w.heap.size) (by omega))
      have b1 := Lib.hid ((hb.out.setCell (p := ⟨w.heap.size, 0, none⟩) (Nat.le_refl _) (.slice A1 (mems (bitI s) k).length d1)).setCell (p := ⟨w.heap.size, 1, none⟩) (Nat.le_refl _) (.slice A2 (mems (bitI s) k).length d2))
      clear O1 O2
      go_wp2
      exact bodyPost_ret (v := .agg #[.slice A1 (mems (bitI s) k).length d1, .slice A2 (mems (bitI s) k).length d2]) (by simp [results, Try.results33, go_sem, r1, r2]) rfl ⟨_, _, rfl, ⟨P1.out, P2.out, T.out.2.2⟩, b1.out⟩
set_option maxHeartbeats 1000000 in
theorem scaled_any (A1 A2 : Option Addr) (c1 c2 n : Nat) (ys : List Int) (w : World) (h : Rd w w.heap.size 1 A2 n (iv ys)) (h1 : 1 ≤ n) (hn : n ≤ 5) (hy : shOk ys) :
    Calls Try.prog 51 #[.agg #[.slice A1 n c1, .slice A2 n c2]] w fun e w' => e = .returned (.int .i64 (mj ys * thou (5 - n))) ∧ Below w.heap.size w w' := by
  have HN := Lib.hid h.len
  have k0 := Blk.new w 56 #[.slice A1 n c1, .slice A2 n c2]
  have b0 := (Below.refl w.heap.size w).alloc (Nat.le_refl _) (.cells #[.slice A1 n c1, .slice A2 n c2] 56)
  have H := Lib.hid (h.next b0)
  have HY : Hid (∀ (k : Nat), k < n → 0 ≤ ys.getD k 0 ∧ ys.getD k 0 ≤ 1000) := Lib.hid (by rw [← HN.out]; exact hy)
  obtain ⟨m, hm⟩ : ∃ m, m = 5 - n := ⟨_, rfl⟩
  rw [← hm]
  have m1 : (5 : Int) - n = m := by omega
  have m5 : m ≤ 5 := by omega
  have mb : 0 ≤ mj ys * thou m ∧ mj ys * thou m ≤ 1000000000000000 := by
    have a := mj_thou hy
    rw [HN.out] at a
    have p := thou_pos m
    refine ⟨Int.mul_nonneg a.1 (by omega), ?_⟩
    have b := Int.mul_le_mul_of_nonneg_right a.2 (show 0 ≤ thou m by omega)
    rw [thou_add, show n + m = 5 by omega] at b
    exact Int.le_trans b (thou_le (Nat.le_refl 5))
  have w1 : IntKind.i64.wrap (mj ys * thou m) = mj ys * thou m := IntWalk.i64_in _ (by omega)
  have w2 : IntKind.i64.wrap (m : Int) = m := IntWalk.i64_in _ (by omega)
  have B0 := Lib.hid b0
  clear h hm hy b0
  go_enter Try.func51, Try.ntmps51
  go_wp2_with fail
  generalize hW : w.alloc (.cells #[.slice A1 n c1, .slice A2 n c2] 56) = W at k0 B0 H ⊢
  have C0 : ∀ (u : Bel W.heap.size W) (i : Nat), u.val.cell? ⟨w.heap.size, i, none⟩ = (#[.slice A1 n c1, .slice A2 n c2] : Array Value)[i]? := bel_cell k0 k0.lt
  clear hW
  (refine wp_region_bel W.heap.size W (Below.refl _ _) (by kernel_rfl) (by kernel_rfl) ?_; (repeat (go_big_quiet_step ((first | (go_at_call 29; exact bel_of (Nat.le_refl _) (majority_any _ _ n ys _ (H.out.next (Bel.below _)) h1 hn HY.out)) | (go_at_call 30; exact bel_same (allWays_any m _ m5)))))); refine wpQuiet_nil ?_; rintro wx ⟨⟨_, hbx⟩, rfl⟩)
  have b1 := Lib.hid (below_more B0.out hbx (Nat.le_refl _))
  clear C0
  go_wp2
  go_ret
  exact ⟨rfl, b1.out⟩
theorem lex_at {m o : List Nat} {k a b : Nat} (ha : m[k]? = some a) (hb : o[k]? = some b) : lexB (m.drop k) (o.drop k) = if a = b then lexB (m.drop (k + 1)) (o.drop (k + 1)) else decide (a < b) := by
  obtain ⟨h1, rfl⟩ := List.getElem?_eq_some_iff.1 ha
  obtain ⟨h2, rfl⟩ := List.getElem?_eq_some_iff.1 hb
  rw [List.drop_eq_getElem_cons h1, List.drop_eq_getElem_cons h2, lexB]
theorem nv_get {m : List Nat} {k a : Nat} (h : m[k]? = some a) : (nv m)[k]? = some (a : Int) := by simp [nv, h]
theorem scaled_is {A1 A2 : Option Addr} {c1 c2 n : Nat} {ys : List Int} {x : Int} (hx : mj ys * thou (5 - n) = x) (w : World) (h : Rd w w.heap.size 1 A2 n (iv ys)) (h1 : 1 ≤ n) (hn : n ≤ 5) (hy : shOk ys) :
    Calls Try.prog 51 #[.agg #[.slice A1 n c1, .slice A2 n c2]] w fun e w' => e = .returned (.int .i64 x) ∧ Below w.heap.size w w' := by
  rw [← hx]; exact scaled_any A1 A2 c1 c2 n ys w h h1 hn hy
set_option maxHeartbeats 2000000 in
set_option maxRecDepth 100000 in
theorem better_any (A1 A2 A3 A4 : Option Addr) (c1 c2 c3 c4 n1 n2 : Nat) (zs : List Int) (m o : List Nat) (w : World) (hm : m.length = n1) (ho : o.length = n2) (r1 : Rd w w.heap.size 1 A1 n1 (iv (nv m))) (r2 : Rd w w.heap.size 1 A2 n1 (iv (sh zs m))) (r3 : Rd w w.heap.size 1 A3 n2 (iv (nv o))) (r4 : Rd w w.heap.size 1 A4 n2 (iv (sh zs o)))
    (h1 : 1 ≤ n1) (h5 : n1 ≤ 5) (g1 : 1 ≤ n2) (g5 : n2 ≤ 5) (hz : shOk zs) :
    Calls Try.prog 34 #[.agg #[.slice A1 n1 c1, .slice A2 n1 c2], .agg #[.slice A3 n2 c3, .slice A4 n2 c4]] w fun e w' => e = .returned (.bool (bet zs m o)) ∧ Below w.heap.size w w' := by
  have k0 := (Blk.new w 56 #[.slice A1 n1 c1, .slice A2 n1 c2]).alloc (.cells #[.slice A3 n2 c3, .slice A4 n2 c4] 56)
  have k1 := Blk.new (w.alloc (.cells #[.slice A1 n1 c1, .slice A2 n1 c2] 56)) 56 #[.slice A3 n2 c3, .slice A4 n2 c4]
  rw [show (w.alloc (.cells #[.slice A1 n1 c1, .slice A2 n1 c2] 56)).heap.size = w.heap.size + 1 by simp] at k1
  have b0 := ((Below.refl w.heap.size w).alloc (Nat.le_refl _) (.cells #[.slice A1 n1 c1, .slice A2 n1 c2] 56)).alloc (by simp) (.cells #[.slice A3 n2 c3, .slice A4 n2 c4] 56)
  have R1 := Lib.hid (r1.next b0)
  have R2 := Lib.hid (r2.next b0)
  have R3 := Lib.hid (r3.next b0)
  have R4 := Lib.hid (r4.next b0)
  have Y1 := Lib.hid (sh_ok hz m)
  have Y2 := Lib.hid (sh_ok hz o)
  have S1 := sc_bd hz (m := m) (by omega)
  have S2 := sc_bd hz (m := o) (by omega)
  have E1 : Hid (mj (sh zs m) * thou (5 - n1) = sc zs m) := Lib.hid (by rw [sc, hm])
  have E2 : Hid (mj (sh zs o) * thou (5 - n2) = sc zs o) := Lib.hid (by rw [sc, ho])
  have HM := Lib.hid hm
  have HO := Lib.hid ho
  have B0 := Lib.hid b0
  have HB : Hid (bet zs m o = if sc zs m = sc zs o then tlB m o else decide (sc zs o < sc zs m)) := Lib.hid rfl
  obtain ⟨x, hx⟩ : ∃ x, x = sc zs m := ⟨_, rfl⟩
  obtain ⟨y, hy⟩ : ∃ y, y = sc zs o := ⟨_, rfl⟩
  rw [← hx] at S1 E1 HB
  rw [← hy] at S2 E2 HB
  generalize hR : bet zs m o = R at HB ⊢
  clear r1 r2 r3 r4 b0 hz hm ho hx hy hR
  by_cases hxy : x = y
  · have HB2 : Hid (R = tlB m o) := Lib.hid (by rw [HB.out, if_pos hxy])
    have q1 : (x != y) = false := by simpa using hxy
    clear HB hxy
    by_cases hnn : n1 = n2
    · have HB3 : Hid (R = lexB m o) := Lib.hid (by rw [HB2.out, tlB, HM.out, HO.out, if_pos hnn])
      subst hnn
      clear HB2
      go_enter Try.func34, Try.ntmps34
      go_wp2_with fail
      generalize hW : (w.alloc (.cells #[.slice A1 n1 c1, .slice A2 n1 c2] 56)).alloc (.cells #[.slice A3 n1 c3, .slice A4 n1 c4] 56) = W at k0 k1 B0 R1 R2 R3 R4 ⊢
      clear hW
      have C0 : ∀ (u : Bel W.heap.size W) (i : Nat), u.val.cell? ⟨w.heap.size, i, none⟩ = (#[.slice A1 n1 c1, .slice A2 n1 c2] : Array Value)[i]? := bel_cell k0 k0.lt
      have C1 : ∀ (u : Bel W.heap.size W) (i : Nat), u.val.cell? ⟨w.heap.size + 1, i, none⟩ = (#[.slice A3 n1 c3, .slice A4 n1 c4] : Array Value)[i]? := bel_cell k1 k1.lt
      have T1 : ∀ u : Bel W.heap.size W, Calls Try.prog 51 #[.agg #[.slice A1 n1 c1, .slice A2 n1 c2]] u.val fun e w'' => e = .returned (.int .i64 x) ∧ ∃ u' : Bel W.heap.size W, w'' = u'.val := fun u => bel_of (Nat.le_refl _) (scaled_is E1.out _ (R2.out.next u.below) h1 h5 Y1.out)
      have T2 : ∀ u : Bel W.heap.size W, Calls Try.prog 51 #[.agg #[.slice A3 n1 c3, .slice A4 n1 c4]] u.val fun e w'' => e = .returned (.int .i64 y) ∧ ∃ u' : Bel W.heap.size W, w'' = u'.val := fun u => bel_of (Nat.le_refl _) (scaled_is E2.out _ (R4.out.next u.below) g1 g5 Y2.out)
      (refine wp_region_bel W.heap.size W (Below.refl _ _) (by kernel_rfl) (by kernel_rfl) ?_; (repeat (go_big_quiet_step ((first | (go_at_call 51; first | with_reducible exact T1 _ | with_reducible exact T2 _))))); refine wpQuiet_nil ?_; rintro wx ⟨⟨_, hbx⟩, rfl⟩)
      clear C0 C1 T1 T2
      have k0 := k0.below hbx k0.lt
      have k1 := k1.below hbx k1.lt
      have B0 := Lib.hid (below_more B0.out hbx (Nat.le_refl _))
      have R1 := Lib.hid (R1.out.next hbx)
      have R2 := Lib.hid (R2.out.next hbx)
      have R3 := Lib.hid (R3.out.next hbx)
      have R4 := Lib.hid (R4.out.next hbx)
      clear hbx
      have d0 := k0.cell
      have d1 := k1.cell
      go_wp2
      go_loop [34] (fun i => ∃ k : Nat, k ≤ n1 ∧ i = .int .i64 k ∧ Hid (R = lexB (m.drop k) (o.drop k))) (fun i => n1 - (intOf i).toNat)
      case atStart => exact ⟨0, Nat.zero_le _, rfl, by simpa using HB3⟩
      case round =>
        obtain ⟨k, hk, rfl, HR⟩ := hrel
        by_cases hlt : k < n1
        · obtain ⟨a, ha, _⟩ := getD_of (l := m) (i := k) (by rw [HM.out]; exact hlt)
          obtain ⟨b, hb, _⟩ := getD_of (l := o) (i := k) (by rw [HO.out]; exact hlt)
          obtain ⟨ba, oa, rfl, _, hca⟩ := R1.out.ints (by omega)
          obtain ⟨bb, ob, rfl, _, hcb⟩ := R3.out.ints (by omega)
          have e0 : wx.cell? ⟨ba, oa + k, none⟩ = some (.int .i64 a) := hca k a (nv_get ha)
          have e1 : wx.cell? ⟨bb, ob + k, none⟩ = some (.int .i64 b) := hcb k b (nv_get hb)
          have HX := Lib.hid (lex_at ha hb)
          clear hca hcb ha hb
          by_cases hab : a = b
          · have HG : Hid (R = lexB (m.drop (k + 1)) (o.drop (k + 1))) := Lib.hid (by rw [HR.out, HX.out, if_pos hab])
            subst hab
            go_wp2
            go_round
            case rel => exact ⟨k + 1, by omega, by go_num, HG⟩
            case measure => simp [intOf]; omega
          · have HG : Hid (R = decide (a < b)) := Lib.hid (by rw [HR.out, HX.out, if_neg hab])
            have q3 : ((a : Int) != b) = true := by rw [bne_iff_ne]; omega
            go_wp2
            go_ret
            exact ⟨ret_bool (by rw [HG.out]; try simp), B0.out⟩
        · obtain rfl : k = n1 := by omega
          have HG : Hid (R = false) := Lib.hid (by rw [HR.out, List.drop_eq_nil_of_le (by rw [HM.out]; exact Nat.le_refl _)]; rfl)
          go_wp2
          go_ret
          exact ⟨ret_bool HG.out.symm, B0.out⟩
    · have HB3 : Hid (R = decide (n1 < n2)) := Lib.hid (by rw [HB2.out, tlB, HM.out, HO.out, if_neg hnn])
      clear HB2
      go_enter Try.func34, Try.ntmps34
      go_wp2_with fail
      generalize hW : (w.alloc (.cells #[.slice A1 n1 c1, .slice A2 n1 c2] 56)).alloc (.cells #[.slice A3 n2 c3, .slice A4 n2 c4] 56) = W at k0 k1 B0 R1 R2 R3 R4 ⊢
      clear hW
      have C0 : ∀ (u : Bel W.heap.size W) (i : Nat), u.val.cell? ⟨w.heap.size, i, none⟩ = (#[.slice A1 n1 c1, .slice A2 n1 c2] : Array Value)[i]? := bel_cell k0 k0.lt
      have C1 : ∀ (u : Bel W.heap.size W) (i : Nat), u.val.cell? ⟨w.heap.size + 1, i, none⟩ = (#[.slice A3 n2 c3, .slice A4 n2 c4] : Array Value)[i]? := bel_cell k1 k1.lt
      have T1 : ∀ u : Bel W.heap.size W, Calls Try.prog 51 #[.agg #[.slice A1 n1 c1, .slice A2 n1 c2]] u.val fun e w'' => e = .returned (.int .i64 x) ∧ ∃ u' : Bel W.heap.size W, w'' = u'.val := fun u => bel_of (Nat.le_refl _) (scaled_is E1.out _ (R2.out.next u.below) h1 h5 Y1.out)
      have T2 : ∀ u : Bel W.heap.size W, Calls Try.prog 51 #[.agg #[.slice A3 n2 c3, .slice A4 n2 c4]] u.val fun e w'' => e = .returned (.int .i64 y) ∧ ∃ u' : Bel W.heap.size W, w'' = u'.val := fun u => bel_of (Nat.le_refl _) (scaled_is E2.out _ (R4.out.next u.below) g1 g5 Y2.out)
      (refine wp_region_bel W.heap.size W (Below.refl _ _) (by kernel_rfl) (by kernel_rfl) ?_; (repeat (go_big_quiet_step ((first | (go_at_call 51; first | with_reducible exact T1 _ | with_reducible exact T2 _))))); refine wpQuiet_nil ?_; rintro wx ⟨⟨_, hbx⟩, rfl⟩)
      clear C0 C1 T1 T2
      have k0 := k0.below hbx k0.lt
      have k1 := k1.below hbx k1.lt
      have B0 := Lib.hid (below_more B0.out hbx (Nat.le_refl _))
      have R1 := Lib.hid (R1.out.next hbx)
      have R2 := Lib.hid (R2.out.next hbx)
      have R3 := Lib.hid (R3.out.next hbx)
      have R4 := Lib.hid (R4.out.next hbx)
      clear hbx
      have d0 := k0.cell
      have d1 := k1.cell
      have q2 : ((n1 : Int) != n2) = true := by rw [bne_iff_ne]; omega
      go_wp2
      go_ret
      exact ⟨ret_bool (by rw [HB3.out]; try simp), B0.out⟩
  · have HB2 : Hid (R = decide (y < x)) := Lib.hid (by rw [HB.out, if_neg hxy])
    have q1 : (x != y) = true := by simpa using hxy
    clear HB
    go_enter Try.func34, Try.ntmps34
    go_wp2_with fail
    generalize hW : (w.alloc (.cells #[.slice A1 n1 c1, .slice A2 n1 c2] 56)).alloc (.cells #[.slice A3 n2 c3, .slice A4 n2 c4] 56) = W at k0 k1 B0 R1 R2 R3 R4 ⊢
    clear hW
    have C0 : ∀ (u : Bel W.heap.size W) (i : Nat), u.val.cell? ⟨w.heap.size, i, none⟩ = (#[.slice A1 n1 c1, .slice A2 n1 c2] : Array Value)[i]? := bel_cell k0 k0.lt
    have C1 : ∀ (u : Bel W.heap.size W) (i : Nat), u.val.cell? ⟨w.heap.size + 1, i, none⟩ = (#[.slice A3 n2 c3, .slice A4 n2 c4] : Array Value)[i]? := bel_cell k1 k1.lt
    have T1 : ∀ u : Bel W.heap.size W, Calls Try.prog 51 #[.agg #[.slice A1 n1 c1, .slice A2 n1 c2]] u.val fun e w'' => e = .returned (.int .i64 x) ∧ ∃ u' : Bel W.heap.size W, w'' = u'.val := fun u => bel_of (Nat.le_refl _) (scaled_is E1.out _ (R2.out.next u.below) h1 h5 Y1.out)
    have T2 : ∀ u : Bel W.heap.size W, Calls Try.prog 51 #[.agg #[.slice A3 n2 c3, .slice A4 n2 c4]] u.val fun e w'' => e = .returned (.int .i64 y) ∧ ∃ u' : Bel W.heap.size W, w'' = u'.val := fun u => bel_of (Nat.le_refl _) (scaled_is E2.out _ (R4.out.next u.below) g1 g5 Y2.out)
    (refine wp_region_bel W.heap.size W (Below.refl _ _) (by kernel_rfl) (by kernel_rfl) ?_; (repeat (go_big_quiet_step ((first | (go_at_call 51; first | with_reducible exact T1 _ | with_reducible exact T2 _))))); refine wpQuiet_nil ?_; rintro wx ⟨⟨_, hbx⟩, rfl⟩)
    clear C0 C1 T1 T2
    have k0 := k0.below hbx k0.lt
    have k1 := k1.below hbx k1.lt
    have B0 := Lib.hid (below_more B0.out hbx (Nat.le_refl _))
    have R1 := Lib.hid (R1.out.next hbx)
    have R2 := Lib.hid (R2.out.next hbx)
    have R3 := Lib.hid (R3.out.next hbx)
    have R4 := Lib.hid (R4.out.next hbx)
    clear hbx
    go_wp2_with fail
    have C0 : ∀ (u : Bel wx.heap.size wx) (i : Nat), u.val.cell? ⟨w.heap.size, i, none⟩ = (#[.slice A1 n1 c1, .slice A2 n1 c2] : Array Value)[i]? := bel_cell k0 k0.lt
    have C1 : ∀ (u : Bel wx.heap.size wx) (i : Nat), u.val.cell? ⟨w.heap.size + 1, i, none⟩ = (#[.slice A3 n2 c3, .slice A4 n2 c4] : Array Value)[i]? := bel_cell k1 k1.lt
    have T1 : ∀ u : Bel wx.heap.size wx, Calls Try.prog 51 #[.agg #[.slice A1 n1 c1, .slice A2 n1 c2]] u.val fun e w'' => e = .returned (.int .i64 x) ∧ ∃ u' : Bel wx.heap.size wx, w'' = u'.val := fun u => bel_of (Nat.le_refl _) (scaled_is E1.out _ (R2.out.next u.below) h1 h5 Y1.out)
    have T2 : ∀ u : Bel wx.heap.size wx, Calls Try.prog 51 #[.agg #[.slice A3 n2 c3, .slice A4 n2 c4]] u.val fun e w'' => e = .returned (.int .i64 y) ∧ ∃ u' : Bel wx.heap.size wx, w'' = u'.val := fun u => bel_of (Nat.le_refl _) (scaled_is E2.out _ (R4.out.next u.below) g1 g5 Y2.out)
    (refine wp_region_bel wx.heap.size wx (Below.refl _ _) (by kernel_rfl) (by kernel_rfl) ?_; (repeat (go_big_quiet_step ((first | (go_at_call 51; first | with_reducible exact T1 _ | with_reducible exact T2 _))))); refine wpQuiet_nil ?_; rintro wy ⟨⟨_, hby⟩, rfl⟩)
    clear C0 C1 T1 T2
    have k0 := k0.below hby k0.lt
    have k1 := k1.below hby k1.lt
    have B0 := Lib.hid (below_more B0.out hby (Nat.le_refl _))
    have R1 := Lib.hid (R1.out.next hby)
    have R2 := Lib.hid (R2.out.next hby)
    have R3 := Lib.hid (R3.out.next hby)
    have R4 := Lib.hid (R4.out.next hby)
    clear hby
    go_wp2
    go_ret
    exact ⟨ret_bool HB2.out.symm, B0.out⟩
theorem mjm_bd {M : Int} {n : Nat} (mb : 0 ≤ M ∧ M ≤ thou n) {j : Nat} (hj : n + j ≤ 5) : 0 ≤ M * thou j ∧ M * thou j ≤ 1000000000000000 := by
  have p := thou_pos j
  refine ⟨Int.mul_nonneg mb.1 (by omega), ?_⟩
  have b := Int.mul_le_mul_of_nonneg_right mb.2 (show 0 ≤ thou j by omega)
  rw [thou_add] at b
  exact Int.le_trans b (thou_le hj)
def RetJ (zs : List Int) (w : World) (e : Ending) (w' : World) : Prop := ∃ v, e = .returned (.tuple #[v, .int .i64 (BestJury_L zs).2.1, .int .i64 (BestJury_L zs).2.2]) ∧ w'.ownsRow w.heap.size 2 1 v (BestJury_L zs).1.length (iv (BestJury_L zs).1) ∧ Below w.heap.size w w'
theorem pow_is {n : Nat} (hn : n ≤ 5) : ∃ P : Nat, 2 ^ n = P ∧ ((2 : Int) ^ n = P) ∧ 1 ≤ P ∧ P ≤ 32 := by
  refine ⟨2 ^ n, rfl, by push_cast; rfl, Nat.one_le_two_pow, ?_⟩
  exact Nat.pow_le_pow_right (by decide) hn
theorem stI_t {zs : List Int} {b m : List Nat} (h : m.length % 2 = 1) (g : b = [] ∨ bet zs m b = true) : stI zs b m = m := by rw [stI, if_pos ⟨h, g⟩]
theorem stI_f {zs : List Int} {b m : List Nat} (h : ¬ m.length % 2 = 1 ∨ (b ≠ [] ∧ bet zs m b = false)) : stI zs b m = b := by
  rw [stI, if_neg]
  rintro ⟨h1, h2⟩
  rcases h with h | ⟨h, g⟩
  · exact h h1
  · rcases h2 with h2 | h2
    · exact h h2
    · rw [g] at h2; cases h2
end Go.Proofs.Ytednmmmnkcbpjaa
