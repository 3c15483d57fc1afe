/- The settling of debts: the program's. -/
import Derived.Test.YtednmmmnkcbpjaaDebts
import Derived.Test.YtednmmmnkcbpjaaAnyS
import Derived.Deep.AppendLies
import Derived.Deep.DeepCutAuto
import Derived.StillTailTactics
set_option linter.unusedVariables false
set_option linter.unusedSimpArgs false
namespace Go.Proofs.Ytednmmmnkcbpjaa
open Go.RowKit

def slen : Value → Nat
  | .slice _ n _ => n
  | _ => 0
theorem infoEntry : (Try.prog.info? 64).map (fun i => (i.zero, i.size, i.bytes)) = some (some (.agg #[.int .i64 0, .string ByteArray.empty, .string ByteArray.empty, .int .i64 0]), 4, 48) := by kernel_rfl
/-- append of one entry to a row of the call's own, in a drawn region -/
theorem stepE {w : World} {o : Oper} {a : Act} {K : Act → World → Prop} {Q : Exit → Act → World → Prop} (s x : Operand)
    (ho : o.op = .call { callee := .builtin .append, args := #[s, x], argTypes := #[37, 37] }) (L : Nat) (v : Value) (n : Nat) (es : List EntryD) (y0 : Int) (y1 y2 : ByteArray) (y3 : Int) (hs : a.eval s = v) (hown : w.ownsRow L 64 4 v n (es.flatMap entryF))
    (B : Nat) (hx : a.eval x = .slice (some ⟨B, 0, none⟩) 1 1) (hB : Blk w B 64 #[.int .i64 y0, .string y1, .string y2, .int .i64 y3]) (hL : L ≤ w.heap.size) (hn : n ≤ 1000)
    (h : ∀ q cap w', w'.ownsRow L 64 4 (.slice (some ⟨q, 0, none⟩) (n + 1) cap) (n + 1) ((es ++ [(⟨y0, y1, y2, y3⟩ : EntryD)]).flatMap entryF) → w.grownBy w' v.ownBlock → K (a.put o.dst (.slice (some ⟨q, 0, none⟩) (n + 1) cap)) w') : o.wp Try.prog a w K Q := by
  obtain ⟨i0, hi, hz0, hz1, hz2⟩ := info_parts infoEntry
  refine wp_append_lies w s x 37 ho L 64 i0 (.agg #[.int .i64 0, .string ByteArray.empty, .string ByteArray.empty, .int .i64 0]) 4 48 Try.underlying37 hi hz0 hz1 hz2 rfl (by decide) v n (es.flatMap entryF) hs hown ⟨B, 0, none⟩ 1 1 [.int .i64 y0, .string y1, .string y2, .int .i64 y3] hx rfl ?_ ?_ (by omega) ?_ ?_ hL w.heap.size rfl ?_
  · intro j u hu
    rw [show ((⟨B, 0, none⟩ : Addr).add j) = ⟨B, j, none⟩ by unfold Addr.add; split <;> simp_all]
    rw [hB.cell j]
    simpa using hu
  · intro u hu
    simp at hu
    rcases hu with rfl | rfl | rfl | rfl <;> rfl
  · unfold maxLen; omega
  · omega
  · intro g cap w' h1 h2 _ _
    exact h g cap w' (by simpa [entryF] using h1) h2
theorem ownE_far {w : World} {L n k : Nat} {t : TypeId} {v : Value} {xs : List Value} (h : w.ownsRow L t k v n xs) {p : Addr} (hp : p.block < L) (u : Value) : (w.setCell p u).ownsRow L t k v n xs := by
  refine ⟨h.1, ?_⟩
  rcases h.2 with hn | ⟨g, cap, cur, rfl, hb, hg, rest⟩
  · exact .inl hn
  · refine .inr ⟨g, cap, cur, rfl, hb, ?_, rest⟩
    rw [Below.heap_setCell _ _ _ _ (by omega)]
    exact hg
theorem ownE_grown {w w' : World} {L n k : Nat} {t : TypeId} {v : Value} {xs : List Value} {r : Option Nat} (h : w.ownsRow L t k v n xs) (hg : w.grownBy w' r) (hr : ∀ q, v.ownBlock = some q → r ≠ some q) : w'.ownsRow L t k v n xs := by
  refine ⟨h.1, ?_⟩
  rcases h.2 with hn | ⟨g, cap, cur, rfl, hb, hk, rest⟩
  · exact .inl hn
  · refine .inr ⟨g, cap, cur, rfl, hb, ?_, rest⟩
    rw [hg.block g (Array.getElem?_eq_some_iff.1 hk).1 (fun e => hr g rfl e.symm)]
    exact hk
theorem ownE_val {w : World} {L n k : Nat} {t : TypeId} {v : Value} {xs : List Value} (h : w.ownsRow L t k v n xs) : ∃ A c, v = .slice A n c := by
  rcases h.2 with ⟨rfl, rfl⟩ | ⟨g, cap, cur, rfl, _⟩
  · exact ⟨none, 0, rfl⟩
  · exact ⟨_, _, rfl⟩
theorem ownE_low {w : World} {L L' n k : Nat} {t : TypeId} {v : Value} {xs : List Value} (h : w.ownsRow L t k v n xs) (hL : L' ≤ L) : w.ownsRow L' t k v n xs := by
  refine ⟨h.1, ?_⟩
  rcases h.2 with hn | ⟨g, cap, cur, hv, hb, rest⟩
  · exact .inl hn
  · exact .inr ⟨g, cap, cur, hv, by omega, rest⟩
theorem nmD_at {ss : List ByteArray} {i : Nat} (h : i < ss.length) : ss[i]? = some (nmD ss i) := by simp [nmD, h]
theorem ownE_empty (w : World) (t : TypeId) (k : Nat) : (w.alloc (.cells #[] t)).ownsRow w.heap.size t k (.slice (some ⟨w.heap.size, 0, none⟩) 0 0) 0 [] :=
  World.ownsRow_lit w #[] 0 (Nat.le_refl _) (Nat.zero_le _) (by simp)
theorem ivE_set (r : List Int) (i : Nat) (z : Int) : iv (r.set i z) = (iv r).set i (.int .i64 z) := by simp [iv, List.map_set]
theorem ownE_at {w : World} {L n c : Nat} {t : TypeId} {A : Option Addr} {xs : List Value} (h : w.ownsRow L t 1 (.slice A n c) n xs) (hn : 0 < n) : ∃ g, A = some ⟨g, 0, none⟩ ∧ L ≤ g ∧ g < w.heap.size := by
  rcases h.2 with ⟨_, h0⟩ | ⟨g, cap, cur, hv, hb, hg, _⟩
  · omega
  · injection hv with hA
    exact ⟨g, hA, hb, (Array.getElem?_eq_some_iff.1 hg).1⟩
theorem ownE_cell {w : World} {L g n c i : Nat} {t : TypeId} {l : List Int} (h : w.ownsRow L t 1 (.slice (some ⟨g, 0, none⟩) n c) n (iv l)) (hl : l.length = n) (hi : i < n) : w.cell? ⟨g, i, none⟩ = some (.int .i64 (l.getD i 0)) := by
  rw [h.cellAt i (by omega), iv_get (List.getElem?_eq_getElem (show i < l.length by omega))]
  simp [List.getElem?_eq_getElem (show i < l.length by omega)]
theorem step_own {w : World} {L g n c : Nat} {t : TypeId} {l : List Int} (h : w.ownsRow L t 1 (.slice (some ⟨g, 0, none⟩) n c) n (iv l)) :
    ((w.setCell ⟨g, lo l, none⟩ (.int .i64 (l.getD (lo l) 0 + amt l))).setCell ⟨g, hi l, none⟩ (.int .i64 (l.getD (hi l) 0 - amt l))).ownsRow L t 1 (.slice (some ⟨g, 0, none⟩) n c) n (iv (stepL l)) := by
  unfold stepL
  rw [ivE_set, ivE_set]
  exact ((h.stored (lo l) _).1.stored (hi l) _).1
theorem debtC_zero {ss : List ByteArray} {l : List Int} (h : debtC ss l = 0) : rangeTo l l.length = true ∧ ss.length = l.length ∧ ss.length ≤ 16 ∧ sm l = 0 := by
  unfold debtC at h
  split at h
  · cases h
  · split at h
    · cases h
    · split at h
      · cases h
      · split at h
        · cases h
        · rename_i h1 h2 h3 h4
          refine ⟨by simpa using h2, by omega, by omega, by omega⟩
theorem getD_setS {l : List Int} {i : Nat} {a : Int} (h : i < l.length) : (l.set i a).getD i 0 = a := by simp [h]
theorem getD_setN {l : List Int} {i j : Nat} {a : Int} (h : i ≠ j) : (l.set i a).getD j 0 = l.getD j 0 := by simp [List.getElem?_set_ne h]
/-- what is asked of numbers that are left -/
structure DebtS (ss : List ByteArray) (zs l : List Int) (es : List EntryD) (n : Nat) : Prop where
  len : l.length = n
  zero : sm l = 0
  bound : ∀ i, -10000000 ≤ l.getD i 0 ∧ l.getD i 0 ≤ 10000000
  room : es.length + nz l ≤ n
  law : ∀ fs, Settles ss l fs → Settles ss zs (es ++ fs)
theorem DebtS.start {ss : List ByteArray} {zs : List Int} (h : debtC ss zs = 0) {n : Nat} (hn : zs.length = n) : DebtS ss zs zs [] n := by
  obtain ⟨h1, h2, h3, h4⟩ := debtC_zero h
  refine ⟨hn, h4, fun i => ?_, by have := nz_le zs; simp; omega, fun fs hf => hf⟩
  by_cases hi : i < zs.length
  · exact rangeTo_at h1 i hi
  · simp [List.getElem?_eq_none (show zs.length ≤ i by omega)]
theorem amt_pos {l : List Int} (hp : l.getD (lo l) 0 < 0 ∧ 0 < l.getD (hi l) 0) : 0 < amt l ∧ amt l ≤ - l.getD (lo l) 0 ∧ amt l ≤ l.getD (hi l) 0 := by
  unfold amt; split <;> omega
theorem DebtS.next {ss : List ByteArray} {zs l : List Int} {es : List EntryD} {n : Nat} (h : DebtS ss zs l es n) (hp : l.getD (lo l) 0 < 0 ∧ 0 < l.getD (hi l) 0) (hn : lo l < n ∧ hi l < n) : DebtS ss zs (stepL l) (es ++ [entD ss l]) n := by
  have hs := step_sm h.zero hp (by rw [h.len]; exact hn)
  have hne : lo l ≠ hi l := by intro e; rw [e] at hp; omega
  have ap := amt_pos hp
  refine ⟨by rw [step_len, h.len], hs.1, fun i => ?_, by have := h.room; simp; omega, fun fs hf => by rw [List.append_assoc]; exact h.law _ (.step hp hf)⟩
  have b1 := h.bound i
  have b2 := h.bound (lo l)
  have b3 := h.bound (hi l)
  have e1 : (stepL l).getD i 0 = if hi l = i then l.getD (hi l) 0 - amt l else if lo l = i then l.getD (lo l) 0 + amt l else l.getD i 0 := by
    unfold stepL
    by_cases e : hi l = i
    · subst e
      rw [if_pos rfl, getD_setS (by simp [h.len, hn.2])]
    · rw [if_neg e]
      by_cases e2 : lo l = i
      · subst e2
        rw [if_pos rfl, getD_setN e, getD_setS (by rw [h.len]; exact hn.1)]
      · rw [if_neg e2, getD_setN e, getD_setN e2]
  rw [e1]
  split
  · omega
  · split <;> omega
def SettleE (ss : List ByteArray) (zs : List Int) (w : World) (e : Ending) (w' : World) : Prop :=
  ∃ v es, e = .returned (.tuple #[v, .int .i64 (debtC ss zs)]) ∧ (debtC ss zs = 0 → Settles ss zs es) ∧ (¬ debtC ss zs = 0 → es = []) ∧ es.length ≤ 16 ∧ w'.ownsRow w.heap.size 64 4 v es.length (es.flatMap entryF) ∧ Below w.heap.size w w'
/-- two cells -/
def S2c (g i : Nat) (x : Value) (h j : Nat) (y : Value) (w : World) : Prop := w.cell? ⟨g, i, none⟩ = some x ∧ w.cell? ⟨h, j, none⟩ = some y ∧ True
set_option maxRecDepth 100000 in
set_option maxHeartbeats 8000000 in
theorem SettleDebts_i (A : Option Addr) (b0 o0 c c' n m : Nat) (ss : List ByteArray) (zs : List Int) (w : World) (h : Rd w w.heap.size 1 A n (sv ss)) (h' : Rd w w.heap.size 1 (some ⟨b0, o0, none⟩) m (iv zs)) (hz : ∀ s ∈ ss, s.size ≤ maxLen) (hn : n ≤ 1048576) (hm : m ≤ 1048576) :
    Calls Try.prog 19 #[.slice A n c, .slice (some ⟨b0, o0, none⟩) m c'] w (SettleE ss zs w) := by
  have HN := Lib.hid h.lenS
  have HM := Lib.hid h'.len
  have H := Lib.hid h
  have H' := Lib.hid h'
  have CC := debtsCode_i A (some ⟨b0, o0, none⟩) c c' n m ss zs w h h' hz hn hm
  clear h h' hz
  by_cases h0 : debtC ss zs = 0
  · have DS := Lib.hid (DebtS.start h0 HM.out)
    have hq := debtC_zero h0
    have HD := Lib.hid h0
    rw [HN.out, HM.out] at hq
    obtain rfl : n = m := hq.2.1
    have n16 : n ≤ 16 := hq.2.2.1
    rw [h0] at CC
    clear hq h0
    go_enter Try.func19, Try.ntmps19
    go_wp2_with ((go_at_call 45; refine (CC).mono ?_; rintro e w' ⟨rfl, rfl⟩))
    refine (clone_any b0 o0 c' n zs w H'.out hn).mono ?_
    rintro r w1 ⟨v1, rfl, ho1, hb1⟩
    obtain ⟨LA, lc, rfl⟩ := own_val ho1
    have O1 := Lib.hid ho1
    have B1 := Lib.hid hb1
    clear CC ho1 hb1
    have O2 := Lib.hid (own_grow O1.out ((Below.refl w1.heap.size w1).alloc (Nat.le_refl _) (.cells #[] 64)))
    have E2 := Lib.hid (ownE_empty w1 64 4)
    have B2 := Lib.hid (B1.out.alloc B1.out.size (.cells #[] 64))
    have L12 := Lib.hid B1.out.size
    go_upto_region 6 with fail
    have GB : Hid (∀ q, (Value.slice LA n lc).ownBlock = some q → q < w1.heap.size) := Lib.hid fun q hq => (O1.out.lt q hq).2
    have S2 := Lib.hid ((Below.refl w1.heap.size w1).alloc (Nat.le_refl _) (.cells #[] 64)).size
    generalize w1.alloc (.cells #[] 64) = w2 at O2 E2 B2 S2 ⊢
    generalize w1.heap.size = L2 at E2 L12 GB S2 ⊢
    clear O1 B1
    go_wp2_with fail
    go_loopw [8] (fun out wr => ∃ (l : List Int) (es : List EntryD) (j : Nat), j ≤ n ∧ Hid (slen out = j) ∧ Hid (es.length = j) ∧ Hid (DebtS ss zs l es n) ∧ Hid (wr.ownsRow w.heap.size 2 1 (.slice LA n lc) n (iv l)) ∧ Hid (wr.ownsRow L2 64 4 out j (es.flatMap entryF)) ∧ Hid (Below w.heap.size w wr) ∧ Hid (L2 ≤ wr.heap.size)) (fun out _ => n + 1 - slen out)
    case atStart => exact ⟨zs, [], 0, Nat.zero_le _, Lib.hid rfl, Lib.hid rfl, DS, O2, E2, B2, S2⟩
    case round =>
      obtain ⟨l, es, j, hj, SJ, EJ, D, OL, OE, B, S⟩ := hrel
      obtain ⟨OA, oc, rfl⟩ := ownE_val OE.out
      by_cases hp : 0 < n
      · obtain ⟨g, rfl, hgL, hg⟩ := ownE_at OL.out hp
        have gL2 := GB.out g rfl
        go_wp2_with fail
        go_loop [28, 9, 10] (fun i a b => ∃ (k x y : Nat), k ≤ n ∧ i = .int .i64 k ∧ a = .int .i64 x ∧ b = .int .i64 y ∧ x < n ∧ y < n ∧ Hid (x = loTo l k) ∧ Hid (y = hiTo l k)) (fun i _ _ => n - (intOf i).toNat)
        case atStart => exact ⟨0, 0, 0, Nat.zero_le _, rfl, rfl, rfl, hp, hp, Lib.hid rfl, Lib.hid rfl⟩
        case round =>
          obtain ⟨k, x, y, hk, rfl, rfl, rfl, hx, hy, LX, LY⟩ := hrel
          by_cases hlt : k < n
          · have c0 := ownE_cell OL.out D.out.len hlt
            have c1 := ownE_cell OL.out D.out.len hx
            have c2 := ownE_cell OL.out D.out.len hy
            have N1 : Hid (∀ z, (if l.getD k 0 < l.getD x 0 then k else x) = z → z = loTo l (k + 1)) := Lib.hid fun z e => by rw [loTo, ← LX.out, ← e]
            have N2 : Hid (∀ z, (if l.getD y 0 < l.getD k 0 then k else y) = z → z = hiTo l (k + 1)) := Lib.hid fun z e => by rw [hiTo, ← LY.out, ← e]
            generalize l.getD k 0 = zk at c0 N1 N2
            generalize l.getD x 0 = zx at c1 N1
            generalize l.getD y 0 = zy at c2 N2
            by_cases p1 : zk < zx <;> by_cases p2 : zy < zk
            · have N1 := Lib.hid (N1.out k (if_pos p1))
              have N2 := Lib.hid (N2.out k (if_pos p2))
              go_wp2_with fail
              go_round
              case rel => exact ⟨k + 1, k, k, by omega, by go_num, rfl, rfl, hlt, hlt, N1, N2⟩
              case measure => simp [intOf]; omega
            · have N1 := Lib.hid (N1.out k (if_pos p1))
              have N2 := Lib.hid (N2.out y (if_neg p2))
              go_wp2_with fail
              go_round
              case rel => exact ⟨k + 1, k, y, by omega, by go_num, rfl, rfl, hlt, hy, N1, N2⟩
              case measure => simp [intOf]; omega
            · have N1 := Lib.hid (N1.out x (if_neg p1))
              have N2 := Lib.hid (N2.out k (if_pos p2))
              go_wp2_with fail
              go_round
              case rel => exact ⟨k + 1, x, k, by omega, by go_num, rfl, rfl, hx, hlt, N1, N2⟩
              case measure => simp [intOf]; omega
            · have N1 := Lib.hid (N1.out x (if_neg p1))
              have N2 := Lib.hid (N2.out y (if_neg p2))
              go_wp2_with fail
              go_round
              case rel => exact ⟨k + 1, x, y, by omega, by go_num, rfl, rfl, hx, hy, N1, N2⟩
              case measure => simp [intOf]; omega
          · obtain rfl : k = n := by omega
            have EX : Hid (x = lo l) := Lib.hid (by unfold lo; rw [D.out.len]; exact LX.out)
            have EY : Hid (y = hi l) := Lib.hid (by unfold hi; rw [D.out.len]; exact LY.out)
            clear LX LY hlt
            have c1 := ownE_cell OL.out D.out.len hx
            have c2 := ownE_cell OL.out D.out.len hy
            have bx := D.out.bound x
            have by' := D.out.bound y
            have AM : Hid (∀ z, (if l.getD y 0 < - l.getD x 0 then l.getD y 0 else - l.getD x 0) = z → z = amt l) := Lib.hid fun z e => by
              unfold amt; rw [← EX.out, ← EY.out]; split at e <;> split <;> omega
            have hx0 : (0 : Int) ≤ x := by omega
            have hy0 : (0 : Int) ≤ y := by omega
            have hxn : (x : Int) < k := by omega
            have hyn : (y : Int) < k := by omega
            have tx : (x : Int).toNat = x := by simp
            have ty : (y : Int).toNat = y := by simp
            have DT := debt_two D.out.zero
            rw [← EX.out, ← EY.out] at DT
            obtain ⟨zx, hzx⟩ : ∃ z, z = l.getD x 0 := ⟨_, rfl⟩
            obtain ⟨zy, hzy⟩ : ∃ z, z = l.getD y 0 := ⟨_, rfl⟩
            rw [← hzx] at c1 bx DT AM
            rw [← hzy] at c2 by' DT AM
            have ZX := Lib.hid hzx
            have ZY := Lib.hid hzy
            clear hzx hzy
            have en : IntKind.i64.wrap (-zx) = -zx := IntWalk.i64_in _ (by omega)
            go_upto_region 16 with fail
            refine wp_region_S (S2c g x (.int .i64 zx) g y (.int .i64 zy)) 10 (by kernel_rfl) ?_
            have OL := Lib.hid OL.out.drew
            have OE := Lib.hid OE.out.drew
            have B := Lib.hid (below_drew B.out)
            have S : Hid (L2 ≤ wr.drew.heap.size) := S
            have c1 : wr.drew.cell? ⟨g, x, none⟩ = some (.int .i64 zx) := c1
            have c2 : wr.drew.cell? ⟨g, y, none⟩ = some (.int .i64 zy) := c2
            generalize wr.drew = w3 at OL OE B S c1 c2 ⊢
            have HS : S2c g x (.int .i64 zx) g y (.int .i64 zy) w3 := ⟨c1, c2, trivial⟩
            (refine wpAnyS_take0 0 ?_ rfl (by kernel_rfl) (by kernel_rfl) (by kernel_rfl) (by kernel_rfl) (fun _ _ _ h => h) (by rfl) ?_ (fun _ => HS) ?_; rotate_left; (· (intro w; go_simp; (try with_reducible rfl))); try simp only [Act.put, List.setIfInBounds_toArray, List.set_cons_zero, List.set_cons_succ])
            (refine wpAnyS_take0 1 ?_ rfl (by kernel_rfl) (by kernel_rfl) (by kernel_rfl) (by kernel_rfl) (fun _ _ _ h => h) (by rfl) ?_ (fun _ => HS) ?_; rotate_left; (· (intro w; go_simp; (try with_reducible rfl))); try simp only [Act.put, List.setIfInBounds_toArray, List.set_cons_zero, List.set_cons_succ])
            (refine wpAnyS_take0 2 ?_ rfl (by kernel_rfl) (by kernel_rfl) (by kernel_rfl) (by kernel_rfl) (fun _ _ _ h => h) (by rfl) ?_ (fun _ => HS) ?_; rotate_left; (· (intro w; go_simp; (try with_reducible rfl))); try simp only [Act.put, List.setIfInBounds_toArray, List.set_cons_zero, List.set_cons_succ])
            (refine wpAnyS_take 3 ?_ rfl (by kernel_rfl) (by kernel_rfl) (by kernel_rfl) (by kernel_rfl) (by kernel_rfl) (by kernel_rfl) (fun _ _ _ h => h) (by rfl) ?_ HS ?_; rotate_left; (· (intro w hSw; obtain ⟨s1, s2, s3⟩ := hSw; go_simp; (try with_reducible rfl))); try simp only [Act.put, List.setIfInBounds_toArray, List.set_cons_zero, List.set_cons_succ])
            (refine wpAnyS_take0 4 ?_ rfl (by kernel_rfl) (by kernel_rfl) (by kernel_rfl) (by kernel_rfl) (fun _ _ _ h => h) (by rfl) ?_ (fun _ => HS) ?_; rotate_left; (· (intro w; go_simp; (try with_reducible rfl))); try simp only [Act.put, List.setIfInBounds_toArray, List.set_cons_zero, List.set_cons_succ])
            (refine wpAnyS_take0 5 ?_ rfl (by kernel_rfl) (by kernel_rfl) (by kernel_rfl) (by kernel_rfl) (fun _ _ _ h => h) (by rfl) ?_ (fun _ => HS) ?_; rotate_left; (· (intro w; go_simp; (try with_reducible rfl))); try simp only [Act.put, List.setIfInBounds_toArray, List.set_cons_zero, List.set_cons_succ])
            (refine wpAnyS_take0 6 ?_ rfl (by kernel_rfl) (by kernel_rfl) (by kernel_rfl) (by kernel_rfl) (fun _ _ _ h => h) (by rfl) ?_ (fun _ => HS) ?_; rotate_left; (· (intro w; go_simp; (try with_reducible rfl))); try simp only [Act.put, List.setIfInBounds_toArray, List.set_cons_zero, List.set_cons_succ])
            (refine wpAnyS_take0 7 ?_ rfl (by kernel_rfl) (by kernel_rfl) (by kernel_rfl) (by kernel_rfl) (fun _ _ _ h => h) (by rfl) ?_ (fun _ => HS) ?_; rotate_left; (· (intro w; go_simp; (try with_reducible rfl))); try simp only [Act.put, List.setIfInBounds_toArray, List.set_cons_zero, List.set_cons_succ])
            (refine wpAnyS_take 8 ?_ rfl (by kernel_rfl) (by kernel_rfl) (by kernel_rfl) (by kernel_rfl) (by kernel_rfl) (by kernel_rfl) (fun _ _ _ h => h) (by rfl) ?_ HS ?_; rotate_left; (· (intro w hSw; obtain ⟨s1, s2, s3⟩ := hSw; go_simp; (try with_reducible rfl))); try simp only [Act.put, List.setIfInBounds_toArray, List.set_cons_zero, List.set_cons_succ])
            (refine wpAnyS_take0 9 ?_ rfl (by kernel_rfl) (by kernel_rfl) (by kernel_rfl) (by kernel_rfl) (fun _ _ _ h => h) (by rfl) ?_ (fun _ => HS) ?_; rotate_left; (· (intro w; go_simp; (try with_reducible rfl))); try simp only [Act.put, List.setIfInBounds_toArray, List.set_cons_zero, List.set_cons_succ])
            refine wpAnyS_one 10 rfl (by kernel_rfl) (by rfl) ?_
            intro K hK
            go_simp
            refine hK _ _ (fun h => absurd h (by decide +kernel)) ?_
            clear hK
            refine wpAnyS_done (by kernel_rfl) ?_
            clear HS en
            obtain ⟨am, ham⟩ : ∃ z, z = if zy < -zx then zy else -zx := ⟨_, rfl⟩
            have AM := Lib.hid (AM.out am ham.symm)
            rw [← ham]
            rcases DT with ⟨z1, z2⟩ | ⟨z1, z2⟩
            · have ap : 0 < am ∧ am ≤ -zx ∧ am ≤ zy := by rw [ham]; split <;> omega
              have a0 : (am == 0) = false := by simp; omega
              have a1 : ¬ am = 0 := by omega
              clear ham
              have NX := Lib.hid (D.out.next ⟨by rw [← EX.out, ← ZX.out]; exact z1, by rw [← EY.out, ← ZY.out]; exact z2⟩ ⟨by rw [← EX.out]; exact hx, by rw [← EY.out]; exact hy⟩)
              have hne : x ≠ y := by intro e; rw [ZX.out, e, ← ZY.out] at z1; omega
              have ED : Hid (entD ss l = ⟨0, nmD ss x, nmD ss y, am⟩) := Lib.hid (by unfold entD; rw [← EX.out, ← EY.out, ← AM.out])
              have SP : Hid (stepL l = (l.set x (zx + am)).set y (zy - am)) := Lib.hid (by unfold stepL; rw [← EX.out, ← EY.out, ← AM.out, ← ZX.out, ← ZY.out])
              obtain ⟨nb, no, rfl, hnb, hnc⟩ := H.out.strs hp
              have s1 := (B.out.cell (p := ⟨nb, no + x, none⟩) hnb).trans (hnc x (nmD ss x) (nmD_at (by rw [HN.out]; exact hx)))
              have s2 := (B.out.cell (p := ⟨nb, no + y, none⟩) hnb).trans (hnc y (nmD ss y) (nmD_at (by rw [HN.out]; exact hy)))
              clear hnc c1 c2
              go_upto_region 18 with fail
              refine wp_region_S (S2c nb (no + x) (.string (nmD ss x)) nb (no + y) (.string (nmD ss y))) 10 (by kernel_rfl) ?_
              have OL := Lib.hid OL.out.drew
              have OE := Lib.hid OE.out.drew
              have B := Lib.hid (below_drew B.out)
              have S : Hid (L2 ≤ w3.drew.heap.size) := S
              have s1 : w3.drew.cell? ⟨nb, no + x, none⟩ = some (.string (nmD ss x)) := s1
              have s2 : w3.drew.cell? ⟨nb, no + y, none⟩ = some (.string (nmD ss y)) := s2
              generalize w3.drew = w4 at OL OE B S s1 s2 ⊢
              have HS : S2c nb (no + x) (.string (nmD ss x)) nb (no + y) (.string (nmD ss y)) w4 := ⟨s1, s2, trivial⟩
              (refine wpAnyS_take0 0 ?_ rfl (by kernel_rfl) (by kernel_rfl) (by kernel_rfl) (by kernel_rfl) (fun _ _ _ h => h) (by rfl) ?_ (fun _ => HS) ?_; rotate_left; (· (intro w; go_simp; (try with_reducible rfl))); try simp only [Act.put, List.setIfInBounds_toArray, List.set_cons_zero, List.set_cons_succ])
              (refine wpAnyS_take0 1 ?_ rfl (by kernel_rfl) (by kernel_rfl) (by kernel_rfl) (by kernel_rfl) (fun _ _ _ h => h) (by rfl) ?_ (fun _ => HS) ?_; rotate_left; (· (intro w; go_simp; (try with_reducible rfl))); try simp only [Act.put, List.setIfInBounds_toArray, List.set_cons_zero, List.set_cons_succ])
              (refine wpAnyS_take0 2 ?_ rfl (by kernel_rfl) (by kernel_rfl) (by kernel_rfl) (by kernel_rfl) (fun _ _ _ h => h) (by rfl) ?_ (fun _ => HS) ?_; rotate_left; (· (intro w; go_simp; (try with_reducible rfl))); try simp only [Act.put, List.setIfInBounds_toArray, List.set_cons_zero, List.set_cons_succ])
              (refine wpAnyS_take0 3 ?_ rfl (by kernel_rfl) (by kernel_rfl) (by kernel_rfl) (by kernel_rfl) (fun _ _ _ h => h) (by rfl) ?_ (fun _ => HS) ?_; rotate_left; (· (intro w; go_simp; (try with_reducible rfl))); try simp only [Act.put, List.setIfInBounds_toArray, List.set_cons_zero, List.set_cons_succ])
              (refine wpAnyS_take 4 ?_ rfl (by kernel_rfl) (by kernel_rfl) (by kernel_rfl) (by kernel_rfl) (by kernel_rfl) (by kernel_rfl) (fun _ _ _ h => h) (by rfl) ?_ HS ?_; rotate_left; (· (intro w hSw; obtain ⟨s1, s2, s3⟩ := hSw; go_simp; (try with_reducible rfl))); try simp only [Act.put, List.setIfInBounds_toArray, List.set_cons_zero, List.set_cons_succ])
              (refine wpAnyS_take0 5 ?_ rfl (by kernel_rfl) (by kernel_rfl) (by kernel_rfl) (by kernel_rfl) (fun _ _ _ h => h) (by rfl) ?_ (fun _ => HS) ?_; rotate_left; (· (intro w; go_simp; (try with_reducible rfl))); try simp only [Act.put, List.setIfInBounds_toArray, List.set_cons_zero, List.set_cons_succ])
              (refine wpAnyS_take0 6 ?_ rfl (by kernel_rfl) (by kernel_rfl) (by kernel_rfl) (by kernel_rfl) (fun _ _ _ h => h) (by rfl) ?_ (fun _ => HS) ?_; rotate_left; (· (intro w; go_simp; (try with_reducible rfl))); try simp only [Act.put, List.setIfInBounds_toArray, List.set_cons_zero, List.set_cons_succ])
              (refine wpAnyS_take0 7 ?_ rfl (by kernel_rfl) (by kernel_rfl) (by kernel_rfl) (by kernel_rfl) (fun _ _ _ h => h) (by rfl) ?_ (fun _ => HS) ?_; rotate_left; (· (intro w; go_simp; (try with_reducible rfl))); try simp only [Act.put, List.setIfInBounds_toArray, List.set_cons_zero, List.set_cons_succ])
              (refine wpAnyS_take 8 ?_ rfl (by kernel_rfl) (by kernel_rfl) (by kernel_rfl) (by kernel_rfl) (by kernel_rfl) (by kernel_rfl) (fun _ _ _ h => h) (by rfl) ?_ HS ?_; rotate_left; (· (intro w hSw; obtain ⟨s1, s2, s3⟩ := hSw; go_simp; (try with_reducible rfl))); try simp only [Act.put, List.setIfInBounds_toArray, List.set_cons_zero, List.set_cons_succ])
              (refine wpAnyS_take0 9 ?_ rfl (by kernel_rfl) (by kernel_rfl) (by kernel_rfl) (by kernel_rfl) (fun _ _ _ h => h) (by rfl) ?_ (fun _ => HS) ?_; rotate_left; (· (intro w; go_simp; (try with_reducible rfl))); try simp only [Act.put, List.setIfInBounds_toArray, List.set_cons_zero, List.set_cons_succ])
              refine wpAnyS_one 10 rfl (by kernel_rfl) (by rfl) ?_
              intro K hK
              go_simp
              refine hK _ _ (fun h => absurd h (by decide +kernel)) ?_
              clear hK
              refine wpAnyS_one 11 rfl (by kernel_rfl) (by rfl) ?_
              intro K hK
              go_simp
              refine hK _ _ (fun h => absurd h (by decide +kernel)) ?_
              clear hK HS s1 s2
              have hal := (Below.refl w4.heap.size w4).alloc (Nat.le_refl _) (.cells #[.int .i64 0, .string (nmD ss x), .string (nmD ss y), .int .i64 am] 64)
              have OL5 := Lib.hid (own_grow OL.out hal)
              have OE5 := Lib.hid (own_grow OE.out hal)
              have B5 := Lib.hid (below_more B.out hal (Nat.le_refl _))
              have K5 := Lib.hid (Blk.new w4 64 #[.int .i64 0, .string (nmD ss x), .string (nmD ss y), .int .i64 am])
              have S5 := Lib.hid (Nat.le_trans S.out hal.size)
              clear hal OL OE B
              generalize w4.alloc (.cells #[.int .i64 0, .string (nmD ss x), .string (nmD ss y), .int .i64 am] 64) = w5 at OL5 OE5 B5 K5 S5 ⊢
              refine wpAnyS_one 12 rfl (by kernel_rfl) (by rfl) ?_
              intro K hK
              refine stepE (.tmp 60) (.tmp 71) rfl L2 (.slice OA j oc) j es 0 (nmD ss x) (nmD ss y) am rfl OE5.out w4.heap.size rfl K5.out S5.out (by omega) ?_
              intro q cap w6 o6 g6
              try simp only [Act.put, List.setIfInBounds_toArray, List.set_cons_zero, List.set_cons_succ]
              refine hK _ _ (fun h => absurd h (by decide +kernel)) ?_
              clear hK
              have OL6 := Lib.hid (ownE_grown OL5.out g6 (fun p hp => by
                intro e
                have := (OE5.out.lt p e).1
                have := GB.out p hp
                omega))
              have B6 := Lib.hid (B5.out.grown g6 B5.out.size (fun p hp => by have := (OE5.out.lt p hp).1; have := L12.out; omega))
              have OE6 := Lib.hid o6
              have S6 := Lib.hid (Nat.le_trans S5.out g6.size)
              clear OL5 OE5 B5 K5 S5 o6 g6
              refine wpAnyS_one 13 rfl (by kernel_rfl) (by rfl) ?_
              intro K hK
              go_simp
              refine hK _ _ (fun h => absurd h (by decide +kernel)) ?_
              clear hK
              refine wpAnyS_done (by kernel_rfl) ?_
              have c1 := ownE_cell OL6.out D.out.len hx
              have f1 := OL6.out.frozenAt x
              have e1 : l.getD x 0 = zx := ZX.out.symm
              rw [e1] at c1
              clear e1
              have OL7 := (OL6.out.stored x (.int .i64 (zx + am))).1
              rw [← ivE_set] at OL7
              have OL7 := Lib.hid OL7
              have OE7 := Lib.hid (ownE_far OE6.out (p := ⟨g, x, none⟩) gL2 (.int .i64 (zx + am)))
              have B7 := Lib.hid (B6.out.setCell (p := ⟨g, x, none⟩) hgL (.int .i64 (zx + am)))
              have S7 : Hid (L2 ≤ (w6.setCell ⟨g, x, none⟩ (.int .i64 (zx + am))).heap.size) := Lib.hid (by have := S6.out; simpa using this)
              clear OL6 OE6 B6 S6
              go_upto_region 20 with fail
              generalize w6.setCell ⟨g, x, none⟩ (.int .i64 (zx + am)) = w7 at OL7 OE7 B7 S7 ⊢
              clear c1 f1
              have c2 := ownE_cell OL7.out (by rw [List.length_set]; exact D.out.len) hy
              have f2 := OL7.out.frozenAt y
              rw [getD_setN hne] at c2
              have e2 : l.getD y 0 = zy := ZY.out.symm
              rw [e2] at c2
              clear e2
              have OL8 := (OL7.out.stored y (.int .i64 (zy - am))).1
              rw [← ivE_set, ← SP.out] at OL8
              have OL8 := Lib.hid OL8
              have OE8 := ownE_far OE7.out (p := ⟨g, y, none⟩) gL2 (.int .i64 (zy - am))
              rw [← ED.out] at OE8
              have OE8 := Lib.hid OE8
              have B8 := Lib.hid (B7.out.setCell (p := ⟨g, y, none⟩) hgL (.int .i64 (zy - am)))
              have S8 : Hid (L2 ≤ (w7.setCell ⟨g, y, none⟩ (.int .i64 (zy - am))).heap.size) := Lib.hid (by have := S7.out; simpa using this)
              have EJ8 : Hid ((es ++ [entD ss l]).length = j + 1) := Lib.hid (by simp [EJ.out])
              have jn : j + 1 ≤ k := by have := NX.out.room; rw [EJ8.out] at this; omega
              clear OL7 OE7 B7 S7
              go_wp2_with fail
              go_roundw
              case rel => exact ⟨stepL l, es ++ [entD ss l], j + 1, jn, Lib.hid rfl, EJ8, NX, OL8, OE8, B8, S8⟩
              case measure => simp [slen]; omega
            · obtain rfl : am = 0 := by rw [ham, z1, z2]; rfl
              clear ham
              have ST : Hid (Settles ss zs es) := Lib.hid (by
                have := D.out.law [] (.stop ⟨by rw [← EX.out, ← ZX.out]; exact z1, by rw [← EY.out, ← ZY.out]; exact z2⟩)
                rw [List.append_nil] at this
                exact this)
              go_wp2_with fail
              go_ret2
              exact ⟨.slice OA j oc, es, by rw [HD.out]; rfl, fun _ => ST.out, fun h => absurd HD.out h, by rw [EJ.out]; omega, by rw [EJ.out]; exact ownE_low OE.out L12.out, B.out⟩
      · have Z : Hid (Settles ss zs es) := Lib.hid (by
          have hl : l = [] := List.length_eq_zero_iff.1 (by rw [D.out.len]; omega)
          have := D.out.law [] (.stop (by rw [hl]; exact ⟨rfl, rfl⟩))
          rw [List.append_nil] at this
          exact this)
        obtain rfl : n = 0 := by omega
        go_wp2_with fail
        go_ret2
        exact ⟨.slice OA j oc, es, by rw [HD.out]; rfl, fun _ => Z.out, fun h => absurd HD.out h, by rw [EJ.out]; omega, by rw [EJ.out]; exact ownE_low OE.out L12.out, B.out⟩
  · have hne : (debtC ss zs == 0) = false := by simpa using h0
    have hne2 : (debtC ss zs != 0) = true := by simpa using h0
    have H0 := Lib.hid h0
    obtain ⟨d, hd⟩ : ∃ d, d = debtC ss zs := ⟨_, rfl⟩
    rw [← hd] at CC hne hne2
    have HD := Lib.hid hd
    clear h0 hd
    go_enter Try.func19, Try.ntmps19
    go_wp2_with ((go_at_call 45; refine (CC).mono ?_; rintro e w' ⟨rfl, rfl⟩))
    go_ret2
    exact ⟨.slice none 0 0, [], by rw [HD.out]; rfl, fun h => absurd h H0.out, fun _ => rfl, by simp, World.ownsRow_nil _ _ _ _, Below.refl _ _⟩
end Go.Proofs.Ytednmmmnkcbpjaa
