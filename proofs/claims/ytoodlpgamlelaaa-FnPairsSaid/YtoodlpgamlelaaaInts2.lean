/- Slices of rows of numbers: sizes, copies, equality, marks. -/
import Derived.Test.YtoodlpgamlelaaaInts
set_option linter.unusedVariables false
namespace Go.Proofs.Ytoodlpgamlelaaa
open Go.RowKit

theorem info27 : (Try.prog.info? 31).map (fun i => (i.zero, i.size, i.bytes)) = some (some (.slice none 0 0), 1, 24) := by kernel_rfl
theorem tot_take {rs : List (List Int)} {i : Nat} {r : List Int} (h : rs[i]? = some r) : tot (rs.take (i + 1)) = tot (rs.take i) + r.length := by
  induction rs generalizing i with
  | nil => simp at h
  | cons a rs ih =>
    cases i with
    | zero => simp at h; subst h; simp [tot]
    | succ i => simp at h; simp [tot, ih h]; omega
theorem tot_le (rs : List (List Int)) (i : Nat) : tot (rs.take i) ≤ tot rs := by
  induction rs generalizing i with
  | nil => simp [tot]
  | cons a rs ih =>
    cases i with
    | zero => simp [tot]
    | succ i => have := ih i; simp [tot]; omega
theorem row_le {rs : List (List Int)} {i : Nat} {r : List Int} (h : rs[i]? = some r) : tot (rs.take i) + r.length ≤ tot rs := by
  have := tot_le rs (i + 1)
  rw [tot_take h] at this
  exact this
theorem cnt2_len (k : Int) (rs : List (List Int)) : (cnt2 k rs).length = rs.length := by
  induction rs generalizing k with
  | nil => rfl
  | cons a rs ih => simp [cnt2, ih]
theorem cnt2_get {k : Int} {rs : List (List Int)} {i : Nat} {r : List Int} (h : rs[i]? = some r) : (cnt2 k rs)[i]? = some (cnt (k + tot (rs.take i)) r.length) := by
  induction rs generalizing i k with
  | nil => simp at h
  | cons a rs ih =>
    cases i with
    | zero => simp at h; subst h; simp [cnt2, tot]
    | succ i =>
      simp at h
      simp only [cnt2, List.getElem?_cons_succ, ih h, List.take_succ_cons, tot]
      congr 2
      push_cast
      omega
/-- the first i rows marked -/
def mix (k : Int) (rs : List (List Int)) (i : Nat) : List (List Int) := (cnt2 k rs).take i ++ rs.drop i
theorem mix_zero (k : Int) (rs : List (List Int)) : mix k rs 0 = rs := by simp [mix]
theorem mix_all (k : Int) (rs : List (List Int)) : mix k rs rs.length = cnt2 k rs := by simp [mix, ← cnt2_len k rs]
theorem mix_get {k : Int} {rs : List (List Int)} {i : Nat} (h : i < rs.length) : (mix k rs i)[i]? = rs[i]? := by
  have hl := cnt2_len k rs
  rw [mix, List.getElem?_append_right (by simp; omega)]
  simp
  rw [show i + (i - min i (cnt2 k rs).length) = i by omega]
theorem mix_step {k : Int} {rs : List (List Int)} {i : Nat} {r : List Int} (h : rs[i]? = some r) : (mix k rs i).set i (cnt (k + tot (rs.take i)) r.length) = mix k rs (i + 1) := by
  have hi : i < rs.length := (List.getElem?_eq_some_iff.1 h).1
  have hl := cnt2_len k rs
  apply List.ext_getElem?
  intro j
  by_cases e : i = j
  · subst e
    rw [List.getElem?_set_self (by simp [mix]; omega)]
    rw [mix, List.getElem?_append_left (by simp; omega), List.getElem?_take, if_pos (by omega), cnt2_get h]
  · rw [List.getElem?_set_ne e]
    rcases Nat.lt_or_gt_of_ne e with g | g
    · rw [mix, mix, List.getElem?_append_right (by simp; omega), List.getElem?_append_right (by simp; omega)]
      simp
      congr 1
      omega
    · rw [mix, mix, List.getElem?_append_left (by simp; omega), List.getElem?_append_left (by simp; omega), List.getElem?_take, List.getElem?_take, if_pos g, if_pos (by omega)]
theorem Own2.put {w w1 : World} {L B n i : Nat} {ts t : TypeId} {v u : Value} {rs : List (List Int)} {r : List Int} (hne : ts ≠ t) (h : w.heap.size = w.heap.size) (vs : List Value)
    (hl : rs.length = n) (hB : ∀ k, v.ownBlock = some k → k < B) (h1 : w.ownsRow L ts 1 v n vs)
    (h2 : ∀ (i : Nat) (r : List Int), rs[i]? = some r → ∃ u : Value, vs[i]? = some u ∧ w.ownsRow L t 1 u r.length (iv r) ∧ ∀ k, u.ownBlock = some k → k < B)
    (h3 : ∀ (i j : Nat) (u u' : Value), i ≠ j → vs[i]? = some u → vs[j]? = some u' → u.ownBlock = none ∨ u.ownBlock ≠ u'.ownBlock)
    (hu : vs[i]? = some u) (hk : ∀ k, u.ownBlock = some k → k < B) (hg : w.grownBy w1 u.ownBlock) (hu1 : w1.ownsRow L t 1 u r.length (iv r)) (hv : v.ownBlock = none ∨ v.ownBlock ≠ u.ownBlock) : Own2 w1 L B ts t v n (rs.set i r) := by
  refine ⟨by simpa using hl, hB, vs, h1.kept hg hv, fun j r' hr' => ?_, h3⟩
  by_cases e : i = j
  · subst e
    have hi : i < rs.length := by
      have := (List.getElem?_eq_some_iff.1 hr').1
      simpa using this
    rw [List.getElem?_set_self hi] at hr'
    injection hr' with hr'
    subst hr'
    exact ⟨u, hu, hu1, hk⟩
  · rw [List.getElem?_set_ne e] at hr'
    obtain ⟨u', e', ho, hk'⟩ := h2 j r' hr'
    exact ⟨u', e', ho.kept hg (h3 j i u' u (Ne.symm e) e' hu), hk'⟩
theorem rows_ne {w : World} {L n m : Nat} {ts t : TypeId} {v u : Value} {xs ys : List Value} (hne : ts ≠ t) (h : w.ownsRow L ts 1 v n xs) (k : w.ownsRow L t 1 u m ys) : v.ownBlock = none ∨ v.ownBlock ≠ u.ownBlock := by
  rcases h.2 with ⟨rfl, _⟩ | ⟨g, cap, cur, rfl, _, hg, _⟩
  · exact .inl rfl
  · rcases k.2 with ⟨rfl, _⟩ | ⟨g', cap', cur', rfl, _, hg', _⟩
    · exact .inr (by simp [Value.ownBlock])
    · refine .inr fun e => ?_
      simp [Value.ownBlock] at e
      subst e
      rw [hg] at hg'
      injection hg' with hg'
      injection hg' with _ ht
      exact hne ht
/-- the rows of a copy under way: the first i -/
def Cp2 (w : World) (g0 : Nat) (ts t : TypeId) (n i : Nat) (rs : List (List Int)) : Prop :=
  ∃ (vs : List Value) (G : Nat → Nat), vs.length = n ∧ Blk w g0 ts vs.toArray ∧ (∀ j j', j < j' → j' < i → G j < G j') ∧
    ∀ (j : Nat) (r : List Int), j < i → rs[j]? = some r → g0 < G j ∧ vs[j]? = some (Value.slice (some ⟨G j, 0, none⟩) r.length r.length) ∧ Blk w (G j) t (iv r).toArray
theorem Cp2.start {w : World} {g0 : Nat} {ts t : TypeId} {n : Nat} {rs : List (List Int)} {cs : Array Value} (h : Blk w g0 ts cs) (hs : cs.size = n) : Cp2 w g0 ts t n 0 rs :=
  ⟨cs.toList, fun _ => 0, by simpa using hs, by simpa using h, fun _ _ _ h => absurd h (by omega), fun _ _ h => absurd h (by omega)⟩
theorem Cp2.lt {w : World} {g0 : Nat} {ts t : TypeId} {n i : Nat} {rs : List (List Int)} (h : Cp2 w g0 ts t n i rs) : g0 < w.heap.size := by
  obtain ⟨vs, G, _, hb, _⟩ := h; exact hb.lt
theorem Cp2.room {w : World} {g0 : Nat} {ts t : TypeId} {n i j : Nat} {rs : List (List Int)} (h : Cp2 w g0 ts t n i rs) (hj : j < n) : (∃ v, w.cell? ⟨g0, j, none⟩ = some v) ∧ w.frozen? ⟨g0, j, none⟩ = false := by
  obtain ⟨vs, G, hl, hb, _⟩ := h
  exact ⟨⟨vs[j]'(by omega), by rw [hb.cell j]; simp⟩, hb.frozen j⟩
theorem Cp2.step {w w1 : World} {g0 : Nat} {ts t : TypeId} {n i : Nat} {rs : List (List Int)} {r : List Int} (h : Cp2 w g0 ts t n i rs) (hi : i < n) (hr : rs[i]? = some r) (hb : Below w.heap.size w w1) (hk : Blk w1 w.heap.size t (iv r).toArray) :
    Cp2 (w1.setCell ⟨g0, i, none⟩ (.slice (some ⟨w.heap.size, 0, none⟩) r.length r.length)) g0 ts t n (i + 1) rs := by
  have hg := h.lt
  obtain ⟨vs, G, hl, hb0, hG, hrow⟩ := h
  have hlt : ∀ j, j < i → ∃ r, rs[j]? = some r := by
    intro j hj
    have hi' : i < rs.length := (List.getElem?_eq_some_iff.1 hr).1
    exact ⟨rs[j], List.getElem?_eq_getElem (by omega)⟩
  refine ⟨vs.set i (.slice (some ⟨w.heap.size, 0, none⟩) r.length r.length), fun j => if j < i then G j else w.heap.size, by simpa using hl, ?_, ?_, ?_⟩
  · have := (hb0.below hb hg).set_ i (.slice (some ⟨w.heap.size, 0, none⟩) r.length r.length)
    simpa using this
  · intro j j' hj hj'
    show (if j < i then G j else w.heap.size) < (if j' < i then G j' else w.heap.size)
    by_cases e : j' < i
    · rw [if_pos (by omega), if_pos e]; exact hG j j' hj e
    · rw [if_pos (by omega), if_neg e]
      obtain ⟨r', hr'⟩ := hlt j (by omega)
      exact (hrow j r' (by omega) hr').2.2.lt
  · intro j r' hj hr'
    by_cases e : j < i
    · obtain ⟨a, b, c⟩ := hrow j r' e hr'
      simp only [if_pos e]
      refine ⟨a, ?_, ?_⟩
      · rw [List.getElem?_set_ne (by omega)]; exact b
      · exact (c.below hb c.lt).far (p := ⟨g0, i, none⟩) (by simp; omega) _
    · obtain rfl : j = i := by omega
      simp only [if_neg e]
      rw [hr] at hr'
      injection hr' with hr'
      subst hr'
      refine ⟨hg, ?_, ?_⟩
      · rw [List.getElem?_set_self (by omega)]
      · exact hk.far (p := ⟨g0, j, none⟩) (by simp; omega) _
theorem Cp2.done {w : World} {g0 L : Nat} {ts t : TypeId} {n : Nat} {rs : List (List Int)} (h : Cp2 w g0 ts t n n rs) (hL : L ≤ g0) (hn : rs.length = n) (hm : n ≤ maxLen) (hr : ∀ r ∈ rs, r.length ≤ maxLen) :
    Own2 w L w.heap.size ts t (.slice (some ⟨g0, 0, none⟩) n n) n rs := by
  have hg := h.lt
  obtain ⟨vs, G, hl, hb0, hG, hrow⟩ := h
  refine ⟨hn, fun k hk => by simp [Value.ownBlock] at hk; omega, vs, own_of_blk hb0 hl hL hm, fun i r hi => ?_, fun i j u u' hij hu hu' => ?_⟩
  · have hin : i < n := by have := (List.getElem?_eq_some_iff.1 hi).1; omega
    obtain ⟨a, b, c⟩ := hrow i r hin hi
    exact ⟨_, b, own_of_blk c (iv_len r) (by omega) (hr r (List.mem_of_getElem? hi)), fun k hk => by simp [Value.ownBlock] at hk; have := c.lt; omega⟩
  · have h1 : i < n := by have := (List.getElem?_eq_some_iff.1 hu).1; omega
    have h2 : j < n := by have := (List.getElem?_eq_some_iff.1 hu').1; omega
    obtain ⟨_, b, _⟩ := hrow i rs[i] h1 (List.getElem?_eq_getElem (by omega))
    obtain ⟨_, b', _⟩ := hrow j rs[j] h2 (List.getElem?_eq_getElem (by omega))
    rw [b] at hu; injection hu with hu; subst hu
    rw [b'] at hu'; injection hu' with hu'; subst hu'
    refine .inr fun e => ?_
    simp [Value.ownBlock] at e
    rcases Nat.lt_or_gt_of_ne hij with q | q
    · have := hG i j q h2; omega
    · have := hG j i q h1; omega
set_option maxHeartbeats 1000000 in
theorem eqInt64SS_refl (A A' : Option Addr) (c c' n : Nat) (rs : List (List Int)) (w : World) (h : Rd2 w 0 w.heap.size A n rs) (h' : Rd2 w 0 w.heap.size A' n rs) (hm : n ≤ maxLen) (hr : ∀ r ∈ rs, r.length ≤ maxLen) :
    Calls Try.prog 13 #[.slice A n c, .slice A' n c'] w fun e w' => e = .returned (.bool true) ∧ Below w.heap.size w w' := by
  unfold maxLen at hm
  have HN := Lib.hid h.1
  have H := Lib.hid h
  have H' := Lib.hid h'
  clear h h'
  go_enter Try.func13, Try.ntmps13
  go_wp2
  go_loopw [5] (fun i wr => ∃ k : Nat, k ≤ n ∧ i = .int .i64 k ∧ Hid (Below w.heap.size w wr)) (fun i _ => n - (intOf i).toNat)
  case atStart => exact ⟨0, Nat.zero_le _, rfl, Lib.hid (Below.refl _ _)⟩
  case round =>
    obtain ⟨k, hk, rfl, hb⟩ := hrel
    by_cases hlt : k < n
    · obtain ⟨r, hx, hxm⟩ := getD_of (l := rs) (i := k) (by rw [HN.out]; exact hlt)
      have rl := hr r hxm
      unfold maxLen at rl
      have hsz := hb.out.size
      obtain ⟨b, o, rfl, hbB, hc⟩ := (H.out.below hb.out (Nat.le_refl _)).at_ (by omega)
      obtain ⟨b', o', rfl, hbB', hc'⟩ := (H'.out.below hb.out (Nat.le_refl _)).at_ (by omega)
      obtain ⟨Ai, ci, c0, hR, hcap⟩ := hc k r hx
      obtain ⟨Ai', ci', c0', hR', _⟩ := hc' k r hx
      have HR : Hid (∀ u : Bel wr.heap.size wr, Rd u.val u.val.heap.size 1 Ai r.length (iv r)) := Lib.hid fun u => ((hR.1.more hsz).below u.below).more u.below.size
      have HR' : Hid (∀ u : Bel wr.heap.size wr, Rd u.val u.val.heap.size 1 Ai' r.length (iv r)) := Lib.hid fun u => ((hR'.1.more hsz).below u.below).more u.below.size
      have C0 : ∀ u : Bel wr.heap.size wr, u.val.cell? ⟨b, o + k, none⟩ = some (.slice Ai r.length ci) := bel_at c0 (by omega)
      have D0 : ∀ u : Bel wr.heap.size wr, u.val.cell? ⟨b', o' + k, none⟩ = some (.slice Ai' r.length ci') := bel_at c0' (by omega)
      clear hc hc' hx hxm hR hR' c0 c0'
      have hk0 : (0 : Int) ≤ k := by omega
      have hki : (k : Int) < n := by omega
      have tn : (k : Int).toNat = k := by simp
      go_wp2_with fail
      (refine wp_region_bel wr.heap.size wr (Below.refl _ _) (by kernel_rfl) (by kernel_rfl) ?_; (repeat (go_big_quiet_step ((first | (go_at_call 32; exact bel_of (Nat.le_refl _) (eqInt64S_refl _ _ _ _ _ r _ (HR.out _) (HR'.out _) rl)))))); refine wpQuiet_nil ?_; rintro w1 ⟨⟨_, hb1⟩, rfl⟩)
      clear C0 D0 tn
      have b1 := Lib.hid (below_more hb.out hb1 (Nat.le_refl _))
      go_wp2
      go_roundw
      case rel => exact ⟨k + 1, by omega, by go_num, b1⟩
      case measure => simp [intOf]; omega
    · go_wp2
      go_ret
      exact ⟨rfl, hb.out⟩
theorem Own2.where_ {w : World} {L B n c i : Nat} {ts t : TypeId} {A : Option Addr} {rs : List (List Int)} {r : List Int} (hne : ts ≠ t) (h : Own2 w L B ts t (.slice A n c) n rs) (hr : rs[i]? = some r) :
    ∃ g Ai ci, A = some ⟨g, 0, none⟩ ∧ w.cell? ⟨g, i, none⟩ = some (.slice Ai r.length ci) ∧ w.ownsRow L t 1 (.slice Ai r.length ci) r.length (iv r) ∧ (∀ k, Value.ownBlock (.slice Ai r.length ci) = some k → L ≤ k ∧ k < B) ∧
      ∀ (w1 : World) (r' : List Int), r'.length = r.length → w.grownBy w1 (Value.ownBlock (.slice Ai r.length ci)) → w1.ownsRow L t 1 (.slice Ai r.length ci) r.length (iv r') → Own2 w1 L B ts t (.slice A n c) n (rs.set i r') := by
  have hl := h.1
  have hi : i < rs.length := (List.getElem?_eq_some_iff.1 hr).1
  obtain ⟨hl, hB, vs, h1, h2, h3⟩ := h
  obtain ⟨u, hu, ho, hk⟩ := h2 i r hr
  obtain ⟨Ai, ci, rfl⟩ := own_val ho
  rcases h1.2 with ⟨_, h0⟩ | ⟨g, cap, cur, hv, hb, hg, _⟩
  · omega
  · injection hv with hA hn hcap
    subst hA
    subst hcap
    refine ⟨g, Ai, ci, rfl, ?_, ho, fun k hk1 => ⟨(ho.lt k hk1).1, hk k hk1⟩, fun w1 r' hl' hgr hro => ?_⟩
    · rw [h1.cellAt i (by omega), hu]
    · exact Own2.put hne rfl vs hl hB h1 h2 h3 hu hk hgr (by rw [hl']; exact hro) (rows_ne hne h1 ho)
set_option maxHeartbeats 1000000 in
theorem markInt64SS_own (A : Option Addr) (c n L B : Nat) (rs : List (List Int)) (k : Int) (w : World) (h : Own2 w L B 31 2 (.slice A n c) n rs) (hm : n ≤ maxLen) (k0 : 0 ≤ k) (k1 : k + tot rs ≤ 9223372036854775807) :
    Calls Try.prog 16 #[.slice A n c, .int .i64 k] w fun e w' => e = .returned (.int .i64 (k + tot rs)) ∧ Own2 w' L B 31 2 (.slice A n c) n (cnt2 k rs) ∧ Tch L B w w' := by
  unfold maxLen at hm
  have HN := Lib.hid h.1
  have M0 : Hid (Own2 w L B 31 2 (.slice A n c) n (mix k rs 0)) := Lib.hid (by rw [mix_zero]; exact h)
  clear h
  go_enter Try.func16, Try.ntmps16
  go_wp2
  go_loopw [1, 5] (fun a i wr => ∃ j : Nat, j ≤ n ∧ a = .int .i64 (k + tot (rs.take j)) ∧ i = .int .i64 j ∧ Hid (Own2 wr L B 31 2 (.slice A n c) n (mix k rs j)) ∧ Hid (Tch L B w wr)) (fun _ i _ => n - (intOf i).toNat)
  case atStart => exact ⟨0, Nat.zero_le _, by simp [tot], rfl, M0, Lib.hid (Tch.refl _ _ _)⟩
  case round =>
    obtain ⟨j, hj, rfl, rfl, M, ht⟩ := hrel
    by_cases hlt : j < n
    · obtain ⟨r, hx, hxm⟩ := getD_of (l := rs) (i := j) (by rw [HN.out]; exact hlt)
      have rl := row_le hx
      have HX := Lib.hid hx
      obtain ⟨g, Ai, ci, rfl, c0, ho, hk, hput⟩ := M.out.where_ (by decide) ((mix_get (k := k) (by rw [HN.out]; exact hlt)).trans hx)
      have HO := Lib.hid ho
      have HK := Lib.hid hk
      have HP := Lib.hid hput
      clear hx hxm ho hk hput
      go_wp2_with fail
      refine (markInt64S_own _ _ _ L _ _ _ HO.out (by omega) (by omega)).mono ?_
      rintro e w1 ⟨rfl, ho1, hg1⟩
      have M1 := HP.out w1 _ (cnt_len _ _) hg1 ho1
      rw [mix_step HX.out] at M1
      have M2 := Lib.hid M1
      have t1 := Lib.hid (ht.out.trans (Tch.of_grown hg1 HK.out))
      have T := Lib.hid (tot_take HX.out)
      clear M1 ho1 hg1 c0 HO HK HP M ht
      go_wp2
      go_roundw
      case rel => exact ⟨j + 1, by omega, by rw [T.out]; push_cast; go_num, by go_num, M2, t1⟩
      case measure => simp [intOf]; omega
    · obtain rfl : j = n := by omega
      have T : Hid (tot (rs.take j) = tot rs) := Lib.hid (by rw [List.take_of_length_le (by rw [HN.out]; omega)])
      have M2 : Hid (Own2 wr L B 31 2 (.slice A j c) j (cnt2 k rs)) := Lib.hid (by rw [← mix_all, HN.out]; exact M.out)
      go_wp2
      go_ret
      exact ⟨ret_int (by rw [T.out]), M2.out, ht.out⟩
set_option maxHeartbeats 1000000 in
theorem heldInt64SS_any (A : Option Addr) (c n L B : Nat) (rs : List (List Int)) (k : Int) (w : World) (h : Rd2 w L B A n (cnt2 k rs)) (hB : B ≤ w.heap.size) (hm : n ≤ maxLen) (k0 : 0 ≤ k) (k1 : k + tot rs ≤ 9223372036854775807) :
    Calls Try.prog 17 #[.slice A n c, .int .i64 k] w fun e w' => e = .returned (.int .i64 (k + tot rs)) ∧ w = w' := by
  unfold maxLen at hm
  have HN := Lib.hid ((cnt2_len k rs).symm.trans h.1)
  have H := Lib.hid h
  clear h
  go_enter Try.func17, Try.ntmps17
  go_wp2
  go_loop [1, 5] (fun a i => ∃ j : Nat, j ≤ n ∧ a = .int .i64 (k + tot (rs.take j)) ∧ i = .int .i64 j) (fun _ i => n - (intOf i).toNat)
  case atStart => exact ⟨0, Nat.zero_le _, by simp [tot], rfl⟩
  case round =>
    obtain ⟨j, hj, rfl, rfl⟩ := hrel
    by_cases hlt : j < n
    · obtain ⟨r, hx, hxm⟩ := getD_of (l := rs) (i := j) (by rw [HN.out]; exact hlt)
      have rl := row_le hx
      have HX := Lib.hid hx
      obtain ⟨b, o, rfl, hbB, hc⟩ := H.out.at_ (by omega)
      obtain ⟨Ai, ci, c0, hR, hcap⟩ := hc j _ (cnt2_get hx)
      rw [cnt_len] at c0 hR hcap
      have HR := Lib.hid (hR.1.more hB)
      clear hc hx hxm hR
      have T := Lib.hid (tot_take HX.out)
      go_wp2_with fail
      refine (heldInt64S_any _ _ _ _ _ HR.out (by omega) (by omega)).mono ?_
      rintro e w1 ⟨rfl, rfl⟩
      clear c0
      go_wp2
      go_round
      case rel => exact ⟨j + 1, by omega, by rw [T.out]; push_cast; go_num, by go_num⟩
      case measure => simp [intOf]; omega
    · obtain rfl : j = n := by omega
      have T : Hid (tot (rs.take j) = tot rs) := Lib.hid (by rw [List.take_of_length_le (by rw [HN.out]; omega)])
      go_wp2
      go_ret
      exact ⟨ret_int (by rw [T.out]), rfl⟩
end Go.Proofs.Ytoodlpgamlelaaa
