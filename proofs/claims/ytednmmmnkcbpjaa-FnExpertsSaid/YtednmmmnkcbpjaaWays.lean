/- Ways of right answers: the program's and the reference's tables. -/
import Derived.Test.YtednmmmnkcbpjaaWaysP
import Derived.Test.YtednmmmnkcbpjaaNum
set_option linter.unusedVariables false
namespace Go.Proofs.Ytednmmmnkcbpjaa
open Go.RowKit

theorem isSure_any (n : Int) (w : World) :
    Calls Try.prog 35 #[.int .i64 n] w fun e w' => e = .returned (.bool (inB n (0) (1000))) ∧ w = w' := by
  go_enter Try.func35, Try.ntmps35
  go_wp2_with (go_at_call 36; refine (within_any _ _ _ _).mono ?_; rintro e w' ⟨rfl, rfl⟩)
  go_ret
  exact ⟨rfl, rfl⟩
theorem l15Share_any (n : Int) (w : World) :
    Calls Try.prog 52 #[.int .i64 n] w fun e w' => e = .returned (.bool (inB n (0) (1000))) ∧ w = w' := by
  go_enter Try.func52, Try.ntmps52
  go_wp2_with (go_at_call 42; refine (l00In_any _ _ _ _).mono ?_; rintro e w' ⟨rfl, rfl⟩)
  go_ret
  exact ⟨rfl, rfl⟩
/-- a row of n numbers, told by its places -/
def RowF (w : World) (g n : Nat) (f : Nat → Int) : Prop := ∃ cs : Array Value, Blk w g 2 cs ∧ cs.size = n ∧ ∀ k, k < n → cs[k]? = some (.int .i64 (f k))
section
variable {w w' : World} {g n : Nat} {f : Nat → Int}
theorem RowF.lt (h : RowF w g n f) : g < w.heap.size := by obtain ⟨cs, hb, _⟩ := h; exact hb.lt
theorem RowF.cell (h : RowF w g n f) {k : Nat} (hk : k < n) : w.cell? ⟨g, k, none⟩ = some (.int .i64 (f k)) := by obtain ⟨cs, hb, _, hc⟩ := h; rw [hb.cell, hc k hk]
theorem RowF.frozen (h : RowF w g n f) (k : Nat) : w.frozen? ⟨g, k, none⟩ = false := by obtain ⟨cs, hb, _⟩ := h; exact hb.frozen k
theorem RowF.below {B : Nat} (h : RowF w g n f) (hb : Below B w w') (hg : g < B) : RowF w' g n f := by obtain ⟨cs, hk, r⟩ := h; exact ⟨cs, hk.below hb hg, r⟩
theorem RowF.far (h : RowF w g n f) {p : Addr} (hp : g ≠ p.block) (u : Value) : RowF (w.setCell p u) g n f := by obtain ⟨cs, hk, r⟩ := h; exact ⟨cs, hk.far hp u, r⟩
theorem RowF.congr {f' : Nat → Int} (h : RowF w g n f) (e : ∀ k, k < n → f' k = f k) : RowF w g n f' := by
  obtain ⟨cs, hk, hs, hc⟩ := h
  exact ⟨cs, hk, hs, fun k hk => by rw [hc k hk, e k hk]⟩
theorem RowF.set_ {f' : Nat → Int} (h : RowF w g n f) (k : Nat) (z : Int) (e : ∀ j, j < n → f' j = if j = k then z else f j) : RowF (w.setCell ⟨g, k, none⟩ (.int .i64 z)) g n f' := by
  obtain ⟨cs, hk, hs, hc⟩ := h
  refine ⟨_, hk.set_ k _, by simp [hs], fun j hj => ?_⟩
  rw [e j hj]
  by_cases hjk : j = k
  · subst hjk; rw [if_pos rfl]; simp [hs, hj]
  · rw [if_neg hjk, Array.getElem?_setIfInBounds_ne (by omega)]; exact hc j hj
theorem RowF.reads (h : RowF w g n f) {B : Nat} (hB : g < B) : Rd w B 1 (some ⟨g, 0, none⟩) n (iv ((List.range n).map f)) := by
  refine ⟨by simp [iv], fun _ => ⟨g, 0, rfl, hB, fun j u hu => ?_⟩⟩
  have hj : j < n := by have := (List.getElem?_eq_some_iff.1 hu).1; simp [iv] at this; omega
  rw [Nat.zero_add, h.cell hj]
  simp [iv, hj] at hu
  rw [← hu]
end
def WaysE (zs : List Int) (n : Nat) (w : World) (e : Ending) (w' : World) : Prop := ∃ g, e = .returned (.slice (some ⟨g, 0, none⟩) (n + 1) (n + 1)) ∧ w.heap.size ≤ g ∧ RowF w' g (n + 1) (wy zs n) ∧ Below w.heap.size w w'
theorem wy_z {zs : List Int} {i : Nat} {z : Int} (hz : zs[i]? = some z) : wy zs (i + 1) 0 = wy zs i 0 * (1000 - z) := by rw [wy, getD_is hz]
theorem wy_s {zs : List Int} {i k : Nat} {z : Int} (hz : zs[i]? = some z) : wy zs (i + 1) (k + 1) = wy zs i (k + 1) * (1000 - z) + wy zs i k * z := by rw [wy, getD_is hz]
set_option maxHeartbeats 4000000 in
theorem l15Ways_any (A : Option Addr) (c n : Nat) (zs : List Int) (w : World) (h : Rd w w.heap.size 1 A n (iv zs)) (hn : n ≤ 5) (hz : ∀ (k : Nat), k < n → 0 ≤ zs.getD k 0 ∧ zs.getD k 0 ≤ 1000) :
    Calls Try.prog 53 #[.slice A n c] w (WaysE zs n w) := by
  obtain ⟨cs, hcs, hzero, hmk⟩ := make_run (P := Try.prog) Try.underlying24 info64 (n + 1) (by omega) (by unfold maxLen; omega)
  have HN := Lib.hid h.len
  have H := Lib.hid h
  have HZ := Lib.hid hz
  have HW : Hid (∀ i k, i ≤ n → 0 ≤ wy zs i k ∧ wy zs i k ≤ thou i) := Lib.hid (by have := wy_bd (zs := zs) (by rw [HN.out]; exact hz); rw [HN.out] at this; exact this)
  have R1 : Hid (RowF (w.alloc (.cells (cs.setIfInBounds 0 (.int .i64 1)) 2)) w.heap.size (n + 1) (wy zs 0)) := Lib.hid ⟨_, Blk.new w _ _, by simp; omega, fun k hk => by
    by_cases e : k = 0
    · subst e
      have h0 : 0 < cs.size := by omega
      simp [h0, wy]
    · rw [Array.getElem?_setIfInBounds_ne (by omega), hzero k (by omega)]
      simp [Value.cells, Nat.mod_one, wy, e]⟩
  have b1 := Lib.hid ((Below.refl w.heap.size w).alloc (Nat.le_refl _) (.cells (cs.setIfInBounds 0 (.int .i64 1)) 2))
  have hc0 : ∃ v, cs[0]? = some v := ⟨cs[0]'(by omega), Array.getElem?_eq_getElem (by omega)⟩
  have hmk' : ∀ w : World, (Instr.makeSlice 24 (.int .i64 ((n : Int) + 1)) (.int .i64 ((n : Int) + 1))).run Try.prog w = .ok (.slice (some ⟨w.heap.size, 0, none⟩) (n + 1) (n + 1)) (w.alloc (.cells cs 2)) := fun w => by have := hmk w; simpa using this
  obtain ⟨vc, hvc⟩ := hc0
  clear h hz hcs hzero hmk
  go_enter Try.func53, Try.ntmps53
  go_wp2
  clear hmk' hvc
  generalize w.alloc (.cells (cs.setIfInBounds 0 (.int .i64 1)) 2) = w0 at R1 b1 ⊢
  go_loopw [4] (fun i wr => ∃ k : Nat, k ≤ n ∧ i = .int .i64 k ∧ Hid (RowF wr w.heap.size (n + 1) (wy zs k)) ∧ Hid (Below w.heap.size w wr)) (fun i _ => n - (intOf i).toNat)
  case atStart => exact ⟨0, Nat.zero_le _, rfl, R1, b1⟩
  case round =>
    obtain ⟨i, hi, rfl, F, hb⟩ := hrel
    by_cases hlt : i < n
    · obtain ⟨z, hzi, _⟩ := getD_of (l := zs) (i := i) (by rw [HN.out]; exact hlt)
      have zb := HZ.out i hlt
      rw [getD_is hzi] at zb
      have HZI := Lib.hid hzi
      obtain ⟨b, o, rfl, hbB, hc⟩ := H.out.ints (by omega)
      have C0 : Hid (w.cell? ⟨b, o + i, none⟩ = some (.int .i64 z)) := Lib.hid (hc i z hzi)
      have ti := thou_le (show i ≤ 5 by omega)
      have ti4 := thou_le (show i + 1 ≤ 5 by omega)
      rw [thou] at ti4
      have HF0 : Hid (RowF wr w.heap.size (n + 1) (fun x => if i + 1 < x + 0 then wy zs (i + 1) x else wy zs i x)) := Lib.hid (F.out.congr fun k hk => by
        split
        · rw [wy_far zs (i + 1) k (by omega), wy_far zs i k (by omega)]
        · rfl)
      clear hc hzi F
      obtain ⟨wo, rfl⟩ : ∃ wo : World, wo = wr := ⟨_, rfl⟩
      go_wp2
      go_loopw [5] (fun x wr => ∃ j : Nat, j ≤ i + 2 ∧ x = .int .i64 ((i : Int) + 1 - j) ∧ Hid (RowF wr w.heap.size (n + 1) (fun x => if i + 1 < x + j then wy zs (i + 1) x else wy zs i x)) ∧ Hid (Below w.heap.size w wr)) (fun x _ => (intOf x + 1).toNat)
      case atStart => exact ⟨0, by omega, by simp, HF0, hb⟩
      case round =>
        obtain ⟨j, hj, rfl, F, hb⟩ := hrel
        have hsz := hb.out.size
        have hgl := F.out.lt
        by_cases hjt : j ≤ i + 1
        · obtain ⟨k, hk⟩ : ∃ k : Nat, (i : Int) + 1 - j = k := ⟨i + 1 - j, by omega⟩
          rw [hk]
          have hkj : k + j = i + 1 := by omega
          have HK := Lib.hid hkj
          have k1 : k ≤ i + 1 := by omega
          have k2 : i + 1 ≤ k + j := by omega
          have k3 : k + j ≤ i + 1 := by omega
          clear hk hkj
          have e0 : (if i + 1 < k + j then wy zs (i + 1) k else wy zs i k) = wy zs i k := if_neg (by omega)
          have ck := F.out.cell (k := k) (by omega)
          rw [e0] at ck
          have CK : ∀ u : Bel wr.heap.size wr, u.val.cell? ⟨w.heap.size, k, none⟩ = some (.int .i64 (wy zs i k)) := bel_at ck hgl
          have CZ : ∀ u : Bel wr.heap.size wr, u.val.cell? ⟨b, o + i, none⟩ = some (.int .i64 z) := bel_at ((hb.out.cell (p := ⟨b, o + i, none⟩) hbB).trans C0.out) (by omega)
          have wk := HW.out i k (by omega)
          have t1 : (k : Int) < n + 1 := by omega
          have t2 : (0 : Int) ≤ k := by omega
          have t3 : (k : Int).toNat = k := by simp
          have t4 : (i : Int) < n := by omega
          have t5 : (i : Int).toNat = i := by simp
          have mb := mix_bd wk.1 wk.2 wk.1 wk.2 zb.1 zb.2
          have e1 : IntKind.i64.wrap (1000 - z) = 1000 - z := IntWalk.i64_in _ (by omega)
          have e2 : IntKind.i64.wrap (wy zs i k * (1000 - z)) = wy zs i k * (1000 - z) := IntWalk.i64_in _ (by omega)
          clear e0 ck
          go_wp2_with fail
          (refine wp_region_bel wr.heap.size wr (Below.refl _ _) (by kernel_rfl) (by kernel_rfl) ?_; (repeat (go_big_quiet_step ((first | fail)))); refine wpQuiet_nil ?_; rintro w1 ⟨⟨_, hb1⟩, rfl⟩)
          clear CK CZ t3 t5 e1 e2
          have F1 := Lib.hid (F.out.below hb1 hgl)
          have b1 := Lib.hid (below_more hb.out hb1 (Nat.le_refl _))
          have hgl1 := F1.out.lt
          have hs1 := b1.out.size
          by_cases hk0 : k = 0
          · subst hk0
            have HX := Lib.hid (wy_z HZI.out)
            have F2 : Hid (RowF (w1.setCell ⟨w.heap.size, 0, none⟩ (.int .i64 (wy zs i 0 * (1000 - z)))) w.heap.size (n + 1) (fun x => if i + 1 < x + (j + 1) then wy zs (i + 1) x else wy zs i x)) := Lib.hid (F1.out.set_ 0 _ fun x hx => by
              by_cases e : x = 0
              · subst e; rw [if_pos rfl, if_pos (by omega), HX.out]
              · rw [if_neg e, if_pos (by omega), if_pos (by omega)])
            have b2 := Lib.hid (b1.out.setCell (p := ⟨w.heap.size, 0, none⟩) (Nat.le_refl _) (.int .i64 (wy zs i 0 * (1000 - z))))
            have cc := F1.out.cell (k := 0) (by omega)
            have ff := F1.out.frozen 0
            clear F F1 hb b1
            go_wp2
            go_roundw
            case rel => exact ⟨j + 1, by omega, by congr 1; have := HK.out; push_cast; omega, F2, b2⟩
            case measure => simp [intOf]
          · obtain ⟨m, rfl⟩ : ∃ m, k = m + 1 := ⟨k - 1, by omega⟩
            have HX := Lib.hid (wy_s (k := m) HZI.out)
            have e3 : (if i + 1 < m + j then wy zs (i + 1) m else wy zs i m) = wy zs i m := if_neg (by omega)
            have cm := F1.out.cell (k := m) (by omega)
            rw [e3] at cm
            have CM : ∀ u : Bel w1.heap.size w1, u.val.cell? ⟨w.heap.size, m, none⟩ = some (.int .i64 (wy zs i m)) := bel_at cm hgl1
            have CZ : ∀ u : Bel w1.heap.size w1, u.val.cell? ⟨b, o + i, none⟩ = some (.int .i64 z) := bel_at ((b1.out.cell (p := ⟨b, o + i, none⟩) hbB).trans C0.out) (by omega)
            have wm := HW.out i m (by omega)
            have mb2 := mix_bd wk.1 wk.2 wm.1 wm.2 zb.1 zb.2
            have F2 : Hid (∀ w2 : World, RowF w2 w.heap.size (n + 1) (fun x => if i + 1 < x + j then wy zs (i + 1) x else wy zs i x) → RowF (w2.setCell ⟨w.heap.size, m + 1, none⟩ (.int .i64 (wy zs i (m + 1) * (1000 - z) + wy zs i m * z))) w.heap.size (n + 1) (fun x => if i + 1 < x + (j + 1) then wy zs (i + 1) x else wy zs i x)) := Lib.hid fun w2 hF => hF.set_ (m + 1) _ fun x hx => by
              by_cases e : x = m + 1
              · subst e; rw [if_pos rfl, if_pos (by omega), HX.out]
              · rw [if_neg e]
                by_cases e4 : i + 1 < x + j
                · rw [if_pos (by omega), if_pos e4]
                · rw [if_neg (by omega), if_neg e4]
            have b2 : Hid (∀ w2 : World, Below w1.heap.size w1 w2 → Below w.heap.size w (w2.setCell ⟨w.heap.size, m + 1, none⟩ (.int .i64 (wy zs i (m + 1) * (1000 - z) + wy zs i m * z)))) := Lib.hid fun w2 hw2 => (below_more b1.out hw2 (Nat.le_refl _)).setCell (p := ⟨w.heap.size, m + 1, none⟩) (Nat.le_refl _) _
            clear e3 cm
            have t3 : (m : Int).toNat = m := by simp
            have t5 : (i : Int).toNat = i := by simp
            have t6 : (m : Int) < n + 1 := by omega
            have e1 : IntKind.i64.wrap ((m : Int) + 1 - 1) = m := by rw [IntWalk.i64_in _ (by omega)]; omega
            have e2 : IntKind.i64.wrap (wy zs i m * z) = wy zs i m * z := IntWalk.i64_in _ (by omega)
            have e4 : IntKind.i64.wrap (wy zs i (m + 1) * (1000 - z) + wy zs i m * z) = wy zs i (m + 1) * (1000 - z) + wy zs i m * z := IntWalk.i64_in _ (by omega)
            go_wp2_with fail
            (refine wp_region_bel w1.heap.size w1 (Below.refl _ _) (by kernel_rfl) (by kernel_rfl) ?_; (repeat (go_big_quiet_step ((first | fail)))); refine wpQuiet_nil ?_; rintro w2 ⟨⟨_, hb2⟩, rfl⟩)
            clear CM CZ t3 t5 e1 e2 e4
            have F3 := Lib.hid (F1.out.below hb2 hgl1)
            have F4 := Lib.hid (F2.out w2 F3.out)
            have b4 := Lib.hid (b2.out w2 hb2)
            have cc := F3.out.cell (k := m + 1) (by omega)
            have ff := F3.out.frozen (m + 1)
            clear F F1 hb b1 F2 b2 F3 hb2
            go_wp2
            go_roundw
            case rel => exact ⟨j + 1, by omega, by congr 1; have := HK.out; push_cast; omega, F4, b4⟩
            case measure => simp [intOf]; omega
        · obtain rfl : j = i + 2 := by omega
          have F2 : Hid (RowF wr w.heap.size (n + 1) (wy zs (i + 1))) := Lib.hid (F.out.congr fun k hk => by rw [if_pos (by omega)])
          go_wp2
          go_roundw
          case rel => exact ⟨i + 1, by omega, by go_num, F2, hb⟩
          case measure => simp [intOf]; omega
    · obtain rfl : i = n := by omega
      go_wp2
      go_ret
      exact ⟨_, rfl, Nat.le_refl _, F.out, hb.out⟩
def moreF (zs : List Int) (i j x : Nat) : Int := if x < j then wy zs (i + 1) x else if x = j ∧ 0 < j then wy zs i (j - 1) * zs.getD i 0 else 0
theorem moreF_a {zs : List Int} {i j : Nat} {z : Int} (hz : zs[i]? = some z) : moreF zs i j j + wy zs i j * (1000 - z) = wy zs (i + 1) j := by
  unfold moreF
  rw [if_neg (by omega)]
  cases j with
  | zero => rw [if_neg (by omega), wy_z hz]; omega
  | succ j => rw [if_pos ⟨rfl, by omega⟩, wy_s hz, getD_is hz]; simp; omega
theorem moreF_b {zs : List Int} {i j : Nat} {z : Int} (hz : zs[i]? = some z) : moreF zs i j (j + 1) + wy zs i j * z = moreF zs i (j + 1) (j + 1) := by
  unfold moreF
  rw [if_neg (by omega), if_neg (by omega), if_neg (by omega), if_pos ⟨rfl, by omega⟩, getD_is hz]; simp
theorem moreF_bd {zs : List Int} {i j x : Nat} {z : Int} (hz : zs[i]? = some z) (zb : 0 ≤ z ∧ z ≤ 1000) (h : ∀ k, 0 ≤ wy zs i k ∧ wy zs i k ≤ thou i) (h2 : ∀ k, 0 ≤ wy zs (i + 1) k ∧ wy zs (i + 1) k ≤ thou (i + 1)) : 0 ≤ moreF zs i j x ∧ moreF zs i j x ≤ thou i * 1000 := by
  unfold moreF
  rw [getD_is hz]
  split
  · exact h2 x
  · split
    · have a := h (j - 1)
      have := mix_bd a.1 a.2 a.1 a.2 zb.1 zb.2
      omega
    · have := thou_pos i; omega
set_option maxHeartbeats 4000000 in
theorem rightWays_any (A : Option Addr) (c n : Nat) (zs : List Int) (w : World) (h : Rd w w.heap.size 1 A n (iv zs)) (hn : n ≤ 5) (hz : ∀ (k : Nat), k < n → 0 ≤ zs.getD k 0 ∧ zs.getD k 0 ≤ 1000) :
    Calls Try.prog 37 #[.slice A n c] w (WaysE zs n w) := by
  have HN := Lib.hid h.len
  have H := Lib.hid h
  have HZ := Lib.hid hz
  have HW : Hid (∀ i k, i ≤ n → 0 ≤ wy zs i k ∧ wy zs i k ≤ thou i) := Lib.hid (by have := wy_bd (zs := zs) (by rw [HN.out]; exact hz); rw [HN.out] at this; exact this)
  have R1 : Hid (RowF (w.alloc (.cells #[.int .i64 1] 2)) w.heap.size 1 (wy zs 0)) := Lib.hid ⟨_, Blk.new w _ _, rfl, fun k hk => by
    obtain rfl : k = 0 := by omega
    simp [wy]⟩
  have b1 := Lib.hid ((Below.refl w.heap.size w).alloc (Nat.le_refl _) (.cells #[.int .i64 1] 2))
  clear h hz
  go_enter Try.func37, Try.ntmps37
  go_wp2
  generalize w.alloc (.cells #[.int .i64 1] 2) = w0 at R1 b1 ⊢
  go_loopw [12, 3] (fun x v wr => ∃ i g : Nat, i ≤ n ∧ x = .int .i64 i ∧ v = .slice (some ⟨g, 0, none⟩) (i + 1) (i + 1) ∧ w.heap.size ≤ g ∧ Hid (RowF wr g (i + 1) (wy zs i)) ∧ Hid (Below w.heap.size w wr)) (fun x _ _ => n - (intOf x).toNat)
  case atStart => exact ⟨0, w.heap.size, Nat.zero_le _, rfl, rfl, Nat.le_refl _, R1, b1⟩
  case round =>
    obtain ⟨i, g, hi, rfl, rfl, hg, F, hb⟩ := hrel
    by_cases hlt : i < n
    · obtain ⟨z, hzi, _⟩ := getD_of (l := zs) (i := i) (by rw [HN.out]; exact hlt)
      have zb := HZ.out i hlt
      rw [getD_is hzi] at zb
      have HZI := Lib.hid hzi
      obtain ⟨b, o, rfl, hbB, hc⟩ := H.out.ints (by omega)
      have c0 : wr.cell? ⟨b, o + i, none⟩ = some (.int .i64 z) := (hb.out.cell (p := ⟨b, o + i, none⟩) hbB).trans (hc i z hzi)
      have hsz := hb.out.size
      have ti := thou_le (show i ≤ 5 by omega)
      have ti4 := thou_le (show i + 1 ≤ 5 by omega)
      rw [thou] at ti4
      have HB : Hid (∀ j x, 0 ≤ moreF zs i j x ∧ moreF zs i j x ≤ thou i * 1000) := Lib.hid fun j x => moreF_bd HZI.out zb (fun k => HW.out i k (by omega)) (fun k => HW.out (i + 1) k (by omega))
      obtain ⟨cs, hcs, hzero, hmk⟩ := make_run (P := Try.prog) Try.underlying24 info64 (i + 2) (by omega) (by unfold maxLen; omega)
      have hmk' : ∀ w : World, (Instr.makeSlice 24 (.int .i64 ((i : Int) + 1 + 1)) (.int .i64 ((i : Int) + 1 + 1))).run Try.prog w = .ok (.slice (some ⟨w.heap.size, 0, none⟩) (i + 2) (i + 2)) (w.alloc (.cells cs 2)) := fun w => by
        have := hmk w
        rw [show (((i + 2 : Nat)) : Int) = (i : Int) + 1 + 1 by push_cast; omega] at this
        exact this
      have M0 : Hid (RowF (wr.alloc (.cells cs 2)) wr.heap.size (i + 2) (moreF zs i 0)) := Lib.hid ⟨cs, Blk.new wr _ cs, by omega, fun k hk => by
        rw [hzero k (by omega)]
        simp [Value.cells, Nat.mod_one, moreF]⟩
      have F0 := Lib.hid (F.out.below (w' := wr.alloc (.cells cs 2)) ((Below.refl wr.heap.size wr).alloc (Nat.le_refl _) _) F.out.lt)
      have b0 := Lib.hid (hb.out.alloc hsz (.cells cs 2))
      have hgl := F.out.lt
      obtain ⟨G, hG⟩ : ∃ G, G = wr.heap.size := ⟨_, rfl⟩
      rw [← hG] at M0 hgl hsz
      have HGG := Lib.hid hG
      clear hc hzi F hcs hzero hmk hb hG
      obtain ⟨wo, rfl⟩ : ∃ wo : World, wo = wr := ⟨_, rfl⟩
      go_wp2
      rw [← HGG.out]
      clear hmk' c0 HGG
      generalize wo.alloc (.cells cs 2) = w1 at M0 F0 b0 ⊢
      go_loopw [22] (fun x wr => ∃ j : Nat, j ≤ i + 1 ∧ x = .int .i64 j ∧ Hid (RowF wr G (i + 2) (moreF zs i j)) ∧ Hid (RowF wr g (i + 1) (wy zs i)) ∧ Hid (Below w.heap.size w wr)) (fun x _ => i + 1 - (intOf x).toNat)
      case atStart => exact ⟨0, by omega, rfl, M0, F0, b0⟩
      case round =>
        obtain ⟨j, hj, rfl, M, F, hb⟩ := hrel
        by_cases hjt : j < i + 1
        · have wj := HW.out i j (by omega)
          have mb := mix_bd wj.1 wj.2 wj.1 wj.2 zb.1 zb.2
          have m1 := HB.out j j
          have m2 := HB.out j (j + 1)
          have e1 := moreF_a (j := j) HZI.out
          have e2 := moreF_b (j := j) HZI.out
          have wj2 := HW.out (i + 1) j (by omega)
          rw [thou] at wj2
          have m3 := HB.out (j + 1) (j + 1)
          have E1 := Lib.hid e1
          have E2 := Lib.hid e2
          have q1 : 0 ≤ moreF zs i j j + wy zs i j * (1000 - z) ∧ moreF zs i j j + wy zs i j * (1000 - z) ≤ thou i * 1000 := by rw [e1]; exact wj2
          have q2 : 0 ≤ moreF zs i j (j + 1) + wy zs i j * z ∧ moreF zs i j (j + 1) + wy zs i j * z ≤ thou i * 1000 := by rw [e2]; exact m3
          clear e1 e2
          have cj := F.out.cell (k := j) hjt
          have ca := M.out.cell (k := j) (by omega)
          have cb := M.out.cell (k := j + 1) (by omega)
          have fa := M.out.frozen j
          have fb := M.out.frozen (j + 1)
          have M1 := M.out.set_ (f' := fun x => if x = j then moreF zs i j j + wy zs i j * (1000 - z) else moreF zs i j x) j (moreF zs i j j + wy zs i j * (1000 - z)) (fun x hx => rfl)
          have M2 : Hid (RowF ((wr.setCell ⟨G, j, none⟩ (.int .i64 (moreF zs i j j + wy zs i j * (1000 - z)))).setCell ⟨G, j + 1, none⟩ (.int .i64 (moreF zs i j (j + 1) + wy zs i j * z))) G (i + 2) (moreF zs i (j + 1))) := Lib.hid (M1.set_ (j + 1) _ fun x hx => by
            by_cases x1 : x = j + 1
            · subst x1; rw [if_pos rfl, E2.out]
            · rw [if_neg x1]
              by_cases x2 : x = j
              · subst x2; rw [if_pos rfl, E1.out]; unfold moreF; rw [if_pos (by omega)]
              · rw [if_neg x2]
                unfold moreF
                by_cases x3 : x < j
                · rw [if_pos (by omega), if_pos x3]
                · rw [if_neg (by omega), if_neg (by omega), if_neg x3, if_neg (by omega)])
          have F2 : Hid (RowF ((wr.setCell ⟨G, j, none⟩ (.int .i64 (moreF zs i j j + wy zs i j * (1000 - z)))).setCell ⟨G, j + 1, none⟩ (.int .i64 (moreF zs i j (j + 1) + wy zs i j * z))) g (i + 1) (wy zs i)) := Lib.hid ((F.out.far (p := ⟨G, j, none⟩) (by simp; omega) _).far (p := ⟨G, j + 1, none⟩) (by simp; omega) _)
          have b2 := Lib.hid ((hb.out.setCell (p := ⟨G, j, none⟩) hsz (.int .i64 (moreF zs i j j + wy zs i j * (1000 - z)))).setCell (p := ⟨G, j + 1, none⟩) hsz (.int .i64 (moreF zs i j (j + 1) + wy zs i j * z)))
          have hGl := M.out.lt
          have fb2 : (wr.setCell ⟨G, j, none⟩ (.int .i64 (moreF zs i j j + wy zs i j * (1000 - z)))).frozen? ⟨G, j + 1, none⟩ = false := M1.frozen _
          have dj : decide ((j : Int) < (i : Int) + 1) = true := by simp; omega
          clear M1 M F hb
          go_wp2
          go_roundw
          case rel => exact ⟨j + 1, by omega, by go_num, M2, F2, b2⟩
          case measure => simp [intOf]; omega
        · obtain rfl : j = i + 1 := by omega
          have F2 : Hid (RowF wr G (i + 1 + 1) (wy zs (i + 1))) := Lib.hid (M.out.congr fun k hk => by
            unfold moreF
            by_cases e : k < i + 1
            · rw [if_pos e]
            · obtain rfl : k = i + 1 := by omega
              rw [if_neg e, if_pos ⟨rfl, by omega⟩, getD_is HZI.out, wy_s HZI.out, wy_far zs i (i + 1) (by omega)]
              simp)
          have hGl := M.out.lt
          go_wp2
          go_roundw
          case rel => exact ⟨i + 1, G, by omega, by go_num, rfl, by omega, F2, hb⟩
          case measure => simp [intOf]; omega
    · obtain rfl : i = n := by omega
      go_wp2
      go_ret
      exact ⟨g, rfl, hg, F.out, hb.out⟩
end Go.Proofs.Ytednmmmnkcbpjaa
