/- NoteName: the program's and the reference's (the seat's door: its alias is Tryd). -/
import Derived.Test.YtednmmmnkcbpjaaDoorBase
import Derived.Test.YtednmmmnkcbpjaaDoorLines
import Derived.Test.YtednmmmnkcbpjaaDoorOpen
import Derived.Deep.DeepCutAuto
import Derived.OwnWalk
import Derived.Laws.BytesArg
set_option linter.unusedVariables false
namespace Go.Proofs.YtednmmmnkcbpjaaDoor
open Go.RowKit

def bw (bs : List Int) : List Value := bs.map (Value.int .u8)
theorem info8 : (Tryd.prog.info? 5).map (fun i => (i.zero, i.size, i.bytes)) = some (some (.int .u8 0), 1, 1) := by kernel_rfl
/-- append of one byte to a row of the call's own -/
theorem appB {w : World} {ops : Array Oper} {rest : List Oper} {o : Oper} {a : Act} {Q : Exit → Act → World → Prop} (hgd : o.guard = none) (s x : Operand)
    (ho : o.op = .call { callee := .builtin .append, args := #[s, x], argTypes := #[27, 27] }) (L : Nat) (v : Value) (zs : List Int) (z : Int) (hs : a.eval s = v) (hown : w.ownsRow L 5 1 v zs.length (bw zs))
    (hx : a.eval x = .slice (some ⟨w.heap.size, 0, none⟩) 1 1) (hL : L ≤ w.heap.size) (hn : zs.length ≤ 1099511627776)
    (h : ∀ v' w', w'.ownsRow L 5 1 v' (zs ++ [z]).length (bw (zs ++ [z])) → Below L w w' → wpList Tryd.prog ops Q rest (a.put o.dst v') w') :
    wpList Tryd.prog ops Q (o :: rest) a (w.alloc (.cells #[.int .u8 z] 5)) := by
  obtain ⟨i0, hi, hz0, hz1, hz2⟩ := info_parts info8
  refine wpList_append_own _ hgd s x 27 ho L 5 i0 (.int .u8 0) 1 1 Tryd.underlying27 hi hz0 hz1 hz2 rfl (by decide) v zs.length (bw zs) hs (hown.alloc _) ⟨w.heap.size, 0, none⟩ 1 1 [.int .u8 z] hx rfl ?_ ?_ ?_ ?_ ?_ ?_
  · intro j u hu
    match j, hu with
    | 0, hu =>
      simp at hu
      subst hu
      exact (Blk.new w 5 #[.int .u8 z]).cell 0
    | j + 1, hu => simp at hu
  · intro u hu
    simp at hu
    subst hu
    rfl
  · unfold maxLen; omega
  · omega
  · simp; omega
  · intro v' w' h1 h2 _
    refine h v' w' (by simpa [bw] using h1) ?_
    have b1 : Below L w (w.alloc (.cells #[.int .u8 z] 5)) := (Below.refl L w).alloc hL _
    exact b1.grown h2 (by simp; omega) fun k hk => (hown.lt k hk).1
theorem own_emptyB (w : World) (t : TypeId) : (w.alloc (.cells #[] t)).ownsRow w.heap.size t 1 (.slice (some ⟨w.heap.size, 0, none⟩) 0 0) 0 [] :=
  World.ownsRow_lit w #[] 0 (Nat.le_refl _) (Nat.zero_le _) (by simp)
def decS (q : Int) : ByteArray := ⟨#[UInt8.ofNat (48 + q).toNat]⟩
theorem strOf1 (q : Int) (h0 : 0 ≤ q) (h1 : q ≤ 9) : strOfNums [48 + q] = decS q := by
  have : q = 0 ∨ q = 1 ∨ q = 2 ∨ q = 3 ∨ q = 4 ∨ q = 5 ∨ q = 6 ∨ q = 7 ∨ q = 8 ∨ q = 9 := by omega
  rcases this with rfl | rfl | rfl | rfl | rfl | rfl | rfl | rfl | rfl | rfl <;> rfl
theorem small_any (q : Int) (w : World) (h0 : 0 ≤ q) (h1 : q ≤ 5) : Calls Tryd.prog 15 #[.int .i64 q] w fun e w' => e = .returned (.string (decS q)) ∧ w = w' := by
  have : q = 0 ∨ q = 1 ∨ q = 2 ∨ q = 3 ∨ q = 4 ∨ q = 5 := by omega
  rcases this with rfl | rfl | rfl | rfl | rfl | rfl
  all_goals
    go_enter Tryd.func15, Tryd.ntmps15
    go_wp2
    go_ret
    exact ⟨rfl, rfl⟩
theorem format_in (q : Int) (w : World) (h0 : 0 ≤ q) (h1 : q ≤ 5) : Calls Tryd.prog 14 #[.int .i64 q, .int .i64 10] w fun e w' => e = .returned (.string (decS q)) ∧ w = w' := by
  go_enter Tryd.func14, Tryd.ntmps14
  go_wp2_with ((go_at_call 15; refine (small_any _ _ (by omega) (by omega)).mono ?_; rintro e w' ⟨rfl, rfl⟩))
  go_ret
  exact ⟨rfl, rfl⟩
theorem format_any (q : Int) (w : World) (h0 : 0 ≤ q) (h1 : q ≤ 5) : Calls Tryd.prog 13 #[.int .i64 q, .int .i64 10] w fun e w' => e = .returned (.string (decS q)) ∧ w = w' := by
  go_enter Tryd.func13, Tryd.ntmps13
  go_wp2_with ((go_at_call 14; refine (format_in _ _ (by omega) (by omega)).mono ?_; rintro e w' ⟨rfl, rfl⟩))
  go_ret
  exact ⟨rfl, rfl⟩
theorem Decimal_any (q : Int) (w : World) (h0 : 0 ≤ q) (h1 : q ≤ 5) : Calls Tryd.prog 10 #[.int .i64 q] w fun e w' => e = .returned (.string (decS q)) ∧ w = w' := by
  go_enter Tryd.func10, Tryd.ntmps10
  go_wp2_with ((go_at_call 13; refine (format_any _ _ (by omega) (by omega)).mono ?_; rintro e w' ⟨rfl, rfl⟩))
  go_ret
  exact ⟨rfl, rfl⟩
def dsL (q : Int) (k : Nat) : List Int := if k = 0 then [] else [48 + q]
set_option maxRecDepth 100000 in
set_option maxHeartbeats 4000000 in
theorem l01Dec_any (q : Int) (w : World) (h0 : 0 ≤ q) (h1 : q ≤ 5) : Calls Tryd.prog 7 #[.int .i64 q] w fun e w' => e = .returned (.string (decS q)) ∧ Below w.heap.size w w' := by
  by_cases hz : q = 0
  · subst hz
    go_enter Tryd.func7, Tryd.ntmps7
    go_wp2
    go_ret
    exact ⟨rfl, Below.refl _ _⟩
  have hz0 : (q == 0) = false := by rw [Bool.eq_false_iff]; simpa using hz
  have hz1 : (q != 0) = true := by rw [bne, hz0]; rfl
  have O0 := Lib.hid (own_emptyB w 5)
  have B0 := Lib.hid ((Below.refl w.heap.size w).alloc (Nat.le_refl _) (.cells #[] 5))
  have HZ := Lib.hid hz
  clear hz
  go_enter Tryd.func7, Tryd.ntmps7
  go_wp2_with fail
  generalize w.alloc (.cells #[] 5) = w1 at O0 B0 ⊢
  go_loopw [4, 3] (fun m v wr => ∃ (k : Nat) (x : Int), k ≤ 1 ∧ m = .int .i64 x ∧ Hid ((k = 0 ∧ x = q) ∨ (k = 1 ∧ x = 0)) ∧ 0 ≤ x ∧ x ≤ 5 ∧ Hid (wr.ownsRow w.heap.size 5 1 v (dsL q k).length (bw (dsL q k))) ∧ Hid (Below w.heap.size w wr)) (fun m _ _ => (intOf m).toNat)
  case atStart => exact ⟨0, q, by omega, rfl, Lib.hid (.inl ⟨rfl, rfl⟩), h0, h1, O0, B0⟩
  case round =>
    obtain ⟨k, x, hk, rfl, HK, x0, x5, O, hb⟩ := hrel
    by_cases hx : x = 0
    · have hk1 : k = 1 := by rcases HK.out with h | h; exact absurd (h.2.symm.trans hx) HZ.out; exact h.1
      subst hk1
      generalize wr = w2 at *
      have hO := O.out
      obtain ⟨A3, c3, rfl⟩ := own_val hO
      have R3 := Lib.hid (Rd.own hO)
      have e1 : (dsL q 1).length = 1 := rfl
      rw [e1] at R3 ⊢
      have hq : ¬ q < 0 := by omega
      clear O hO e1 HK
      subst hx
      have O7 := Lib.hid (own_emptyB w2 5)
      have B7 := Lib.hid ((Below.refl w2.heap.size w2).alloc (Nat.le_refl _) (.cells #[] 5))
      go_wp2_with fail
      generalize w2.alloc (.cells #[] 5) = w7 at O7 B7 ⊢
      go_loopw [7, 6] (fun i v wr => ∃ (k : Nat) (y : Int), k ≤ 1 ∧ i = .int .i64 y ∧ Hid ((k = 0 ∧ y = 0) ∨ (k = 1 ∧ y = -1)) ∧ -1 ≤ y ∧ y ≤ 0 ∧ Hid (wr.ownsRow w2.heap.size 5 1 v (dsL q k).length (bw (dsL q k))) ∧ Hid (Below w2.heap.size w2 wr)) (fun i _ _ => (intOf i + 1).toNat)
      case atStart => exact ⟨0, 0, by omega, rfl, Lib.hid (.inl ⟨rfl, rfl⟩), by omega, by omega, O7, B7⟩
      case round =>
        obtain ⟨k, y, hk, rfl, HK, y0, y1, O, hb8⟩ := hrel
        have hsz := hb8.out.size
        by_cases hy : y = 0
        · have hk0 : k = 0 := by rcases HK.out with h | h; exact h.1; exact absurd (h.2.symm.trans hy) (by decide)
          subst hk0 hy
          obtain ⟨b3, o3, rfl, hB, hcs⟩ : ∃ b o, A3 = some ⟨b, o, none⟩ ∧ b < w2.heap.size ∧ ∀ j u, (bw (dsL q 1))[j]? = some u → w2.cell? ⟨b, o + j, none⟩ = some u := R3.out.2 (by omega)
          have c0 : wr.cell? ⟨b3, o3, none⟩ = some (.int .u8 (48 + q)) := (hb8.out.cell (p := ⟨b3, o3, none⟩) hB).trans (hcs 0 _ rfl)
          clear hcs HK
          go_wp2_with (at_builtin; refine appB rfl (.tmp 41) (.tmp 46) rfl w2.heap.size u6 (dsL q 0) (48 + q) rfl O.out rfl hsz (by simp [dsL]) ?_; intro v9 w9 o9 b9; have O9 := Lib.hid o9; have B9 := Lib.hid (hb8.out.trans b9); clear o9 b9)
          go_roundw
          case rel => exact ⟨1, -1, by omega, rfl, Lib.hid (.inr ⟨rfl, rfl⟩), by omega, by omega, O9, B9⟩
          case measure => simp [intOf]
        · have hk1 : k = 1 := by rcases HK.out with h | h; exact absurd h.2 hy; exact h.1
          obtain rfl : y = -1 := by omega
          subst hk1
          have hO := O.out
          obtain ⟨A4, c4, rfl⟩ := own_val hO
          obtain ⟨b4, o4, rfl, hB, hcs⟩ : ∃ b o, A4 = some ⟨b, o, none⟩ ∧ b < wr.heap.size ∧ ∀ j u, (bw (dsL q 1))[j]? = some u → wr.cell? ⟨b, o + j, none⟩ = some u := (Rd.own hO).2 (show 0 < 1 by omega)
          have hcv := run_convert_bytes_arg (P := Tryd.prog) wr 27 5 Tryd.underlying27 Tryd.underlying5 b4 o4 1 c4 [48 + q] rfl (fun i hi => by
            obtain rfl : i = 0 := by omega
            exact hcs 0 _ rfl) 9 Tryd.underlying9
          rw [strOf1 q h0 (by omega)] at hcv
          have e1 : (dsL q 1).length = 1 := rfl
          rw [e1]
          clear hcs hO HK e1
          go_wp2
          go_ret
          exact ⟨rfl, below_more hb.out hb8.out (Nat.le_refl _)⟩
    · have hk0 : k = 0 ∧ x = q := by rcases HK.out with h | h; exact h; exact absurd h.2 hx
      obtain ⟨rfl, rfl⟩ := hk0
      have hsz := hb.out.size
      have m1 : x % 10 = x := by omega
      have m2 : x / 10 = 0 := by omega
      have hx0 : ¬ x < 0 := by omega
      have hx1 : 1 ≤ x := by omega
      have ws : IntKind.u8.wrap (48 + x) = 48 + x := by rw [IntKind.wrap_u8]; omega
      clear HK hx
      go_wp2_with (at_builtin; refine appB rfl (.tmp 22) (.tmp 26) rfl w.heap.size u3 (dsL x 0) (48 + x) rfl O.out rfl hsz (by simp [dsL]) ?_; intro v9 w9 o9 b9; have O9 := Lib.hid o9; have B9 := Lib.hid (hb.out.trans b9); clear o9 b9)
      go_roundw
      case rel => exact ⟨1, 0, by omega, congrArg (Value.int .i64) (by omega), Lib.hid (.inr ⟨rfl, rfl⟩), by omega, by omega, O9, B9⟩
      case measure => clear ws; simp [intOf]; omega
def nmA : Array Value := #[.string ⟨#[99]⟩, .string ⟨#[99, 35]⟩, .string ⟨#[100]⟩, .string ⟨#[100, 35]⟩, .string ⟨#[101]⟩, .string ⟨#[102]⟩, .string ⟨#[102, 35]⟩, .string ⟨#[103]⟩, .string ⟨#[103, 35]⟩, .string ⟨#[97]⟩, .string ⟨#[97, 35]⟩, .string ⟨#[98]⟩]
def nmL : List ByteArray := [⟨#[99]⟩, ⟨#[99, 35]⟩, ⟨#[100]⟩, ⟨#[100, 35]⟩, ⟨#[101]⟩, ⟨#[102]⟩, ⟨#[102, 35]⟩, ⟨#[103]⟩, ⟨#[103, 35]⟩, ⟨#[97]⟩, ⟨#[97, 35]⟩, ⟨#[98]⟩]
theorem nm_at {r : Nat} (h : r < 12) : nmA[r]? = some (.string (nmL.getD r ⟨#[]⟩)) := by
  match r, h with
  | 0, _ => rfl
  | 1, _ => rfl
  | 2, _ => rfl
  | 3, _ => rfl
  | 4, _ => rfl
  | 5, _ => rfl
  | 6, _ => rfl
  | 7, _ => rfl
  | 8, _ => rfl
  | 9, _ => rfl
  | 10, _ => rfl
  | 11, _ => rfl
theorem nm_sz {r : Nat} (h : r < 12) : (nmL.getD r ⟨#[]⟩).size ≤ 2 := by
  match r, h with
  | 0, _ => decide
  | 1, _ => decide
  | 2, _ => decide
  | 3, _ => decide
  | 4, _ => decide
  | 5, _ => decide
  | 6, _ => decide
  | 7, _ => decide
  | 8, _ => decide
  | 9, _ => decide
  | 10, _ => decide
  | 11, _ => decide
theorem dec_sz (q : Int) : (decS q).size = 1 := rfl
theorem pick_any (b r : Nat) (w : World) (hk : Blk w b 9 nmA) (hr : r < 12) : Calls Tryd.prog 9 #[.int .i64 r, .slice (some ⟨b, 0, none⟩) 12 12] w fun e w' => e = .returned (.string (nmL.getD r ⟨#[]⟩)) ∧ w = w' := by
  have c0 : w.cell? ⟨b, r, none⟩ = some (.string (nmL.getD r ⟨#[]⟩)) := (hk.cell r).trans (nm_at hr)
  obtain ⟨s, hs⟩ : ∃ s, s = nmL.getD r ⟨#[]⟩ := ⟨_, rfl⟩
  rw [← hs] at c0 ⊢
  have ha : atB (r : Int) 12 = true := atB_mk (by omega)
  clear hs hk
  go_enter Tryd.func9, Tryd.ntmps9
  go_wp2_with ((go_at_call 12; refine (at_any _ _ _ (by omega)).mono ?_; rintro e w' ⟨rfl, rfl⟩))
  go_ret
  exact ⟨rfl, rfl⟩
def noteS (n : Int) : ByteArray := if inB n 0 60 = true then nmL.getD (n % 12).toNat ⟨#[]⟩ ++ decS (n / 12) else ⟨#[]⟩
set_option maxHeartbeats 4000000 in
theorem NoteName_i (n : Int) (w : World) : Calls Tryd.prog 5 #[.int .i64 n] w fun e w' => e = .returned (.string (noteS n)) ∧ Below w.heap.size w w' := by
  cases hI : inB n 0 60
  · have HE : Hid (noteS n = ⟨#[]⟩) := Lib.hid (by rw [noteS, hI]; rfl)
    go_enter Tryd.func5, Tryd.ntmps5
    go_wp2_with ((go_at_call 8; refine (within_any _ _ _ _).mono ?_; rintro e w' ⟨rfl, rfl⟩))
    go_ret
    exact ⟨by rw [HE.out]; rfl, Below.refl _ _⟩
  · have q := inB_t hI
    obtain ⟨r, hr⟩ : ∃ r : Nat, (r : Int) = n % 12 := ⟨(n % 12).toNat, by omega⟩
    obtain ⟨d, hd⟩ : ∃ d : Int, d = n / 12 := ⟨_, rfl⟩
    have r12 : r < 12 := by omega
    have d5 : 0 ≤ d ∧ d ≤ 5 := by omega
    have HE : Hid (noteS n = nmL.getD r ⟨#[]⟩ ++ decS d) := Lib.hid (by rw [noteS, hI, if_pos rfl, ← hd, ← hr]; rfl)
    have KB := Blk.new w 9 nmA
    have B0 := Lib.hid ((Below.refl w.heap.size w).alloc (Nat.le_refl _) (.cells nmA 9))
    have CP := pick_any w.heap.size r (w.alloc (.cells nmA 9)) KB r12
    have hr1 := hr.symm
    have hd1 := hd.symm
    have sz1 := nm_sz r12
    obtain ⟨s, hs⟩ : ∃ s, s = nmL.getD r ⟨#[]⟩ := ⟨_, rfl⟩
    rw [← hs] at HE sz1 CP
    have CP := Lib.hid CP
    have CD := Lib.hid (fun w => Decimal_any d w d5.1 d5.2)
    have sz2 := dec_sz d
    generalize decS d = t at HE CD sz2
    have sz3 : ¬ 9223372036854775807 < s.size + t.size := by omega
    clear hr hd KB hs sz2
    unfold nmA at B0 CP
    go_enter Tryd.func5, Tryd.ntmps5
    go_wp2_with (first | (go_at_call 8; refine (within_any _ _ _ _).mono ?_; rintro e w' ⟨rfl, rfl⟩) | (go_at_call 9; refine (CP.out).mono ?_; rintro e w' ⟨rfl, rfl⟩) | (go_at_call 10; refine (CD.out _).mono ?_; rintro e w' ⟨rfl, rfl⟩))
    go_ret
    exact ⟨by rw [HE.out]; rfl, B0.out⟩
theorem l16Note_any (n : Int) (w : World) : Calls Tryd.prog 6 #[.int .i64 n] w fun e w' => e = .returned (.bool (inB n 0 60)) ∧ w = w' := by
  go_enter Tryd.func6, Tryd.ntmps6
  go_wp2_with ((go_at_call 11; refine (l00In_any _ _ _ _).mono ?_; rintro e w' ⟨rfl, rfl⟩))
  go_ret
  exact ⟨rfl, rfl⟩
set_option maxHeartbeats 4000000 in
theorem NoteName_s (n : Int) (w : World) : Calls Tryd.prog 4 #[.int .i64 n] w fun e w' => e = .returned (.string (noteS n)) ∧ Below w.heap.size w w' := by
  cases hI : inB n 0 60
  · have HE : Hid (noteS n = ⟨#[]⟩) := Lib.hid (by rw [noteS, hI]; rfl)
    go_enter Tryd.func4, Tryd.ntmps4
    go_wp2_with ((go_at_call 6; refine (l16Note_any _ _).mono ?_; rintro e w' ⟨rfl, rfl⟩))
    go_ret
    exact ⟨by rw [HE.out]; rfl, Below.refl _ _⟩
  · have q := inB_t hI
    obtain ⟨r, hr⟩ : ∃ r : Nat, (r : Int) = n % 12 := ⟨(n % 12).toNat, by omega⟩
    obtain ⟨d, hd⟩ : ∃ d : Int, d = n / 12 := ⟨_, rfl⟩
    have r12 : r < 12 := by omega
    have d5 : 0 ≤ d ∧ d ≤ 5 := by omega
    have HE : Hid (noteS n = nmL.getD r ⟨#[]⟩ ++ decS d) := Lib.hid (by rw [noteS, hI, if_pos rfl, ← hd, ← hr]; rfl)
    have KB := Blk.new w 9 nmA
    have B0 := Lib.hid ((Below.refl w.heap.size w).alloc (Nat.le_refl _) (.cells nmA 9))
    have hr1 := hr.symm
    have hd1 := hd.symm
    have HM := Lib.hid (nm_at r12)
    obtain ⟨s, hs⟩ : ∃ s, s = nmL.getD r ⟨#[]⟩ := ⟨_, rfl⟩
    have sz1 := nm_sz r12
    rw [← hs] at HE HM sz1
    have CD := Lib.hid (fun w => l01Dec_any d w d5.1 d5.2)
    have sz2 := dec_sz d
    generalize decS d = t at HE CD sz2
    have sz3 : ¬ 9223372036854775807 < s.size + t.size := by omega
    clear hr hd hs sz2
    have g1 : decide ((r : Int) < 0) = false := decide_eq_false (by omega)
    have g2 : decide ((12 : Int) ≤ r) = false := decide_eq_false (by omega)
    go_enter Tryd.func4, Tryd.ntmps4
    go_upto_region 4 with ((go_at_call 6; refine (l16Note_any _ _).mono ?_; rintro e w' ⟨rfl, rfl⟩))
    change Code.wp _ _ _ _ (w.alloc (.cells nmA 9))
    generalize w.alloc (.cells nmA 9) = w1 at KB B0 ⊢
    have c0 := bel_at (B := w1.heap.size) ((KB.cell r).trans HM.out) KB.lt
    clear KB
    (refine wp_region_bel w1.heap.size w1 (Below.refl _ _) (by kernel_rfl) (by kernel_rfl) ?_; (repeat (go_big_quiet_step ((first | (go_at_call 7; exact bel_of (Nat.le_refl _) (CD.out _)))))); refine wpQuiet_nil ?_; rintro wx ⟨⟨_, hbx⟩, rfl⟩)
    go_wp2
    go_ret
    exact ⟨by rw [HE.out]; rfl, below_more B0.out hbx (Nat.le_refl _)⟩
theorem FnExactNoteName_walk (v0 : Value) (w : World) (i0 : IsI64 w v0) : Calls Tryd.prog 3 #[v0] w fun e w' => e = .returned (.bool true) ∧ Below w.heap.size w w' := by
  obtain ⟨n, rfl, _⟩ := i0
  obtain ⟨s, hs⟩ : ∃ s, s = noteS n := ⟨_, rfl⟩
  have CS := NoteName_s n w
  have CI := Lib.hid (fun w => NoteName_i n w)
  rw [← hs] at CS CI
  clear hs
  go_enter Tryd.func3, Tryd.ntmps3
  go_wp2_with fail
  refine CS.mono ?_
  rintro r w1 ⟨rfl, hb1⟩
  go_wp2_with fail
  refine (CI.out w1).mono ?_
  rintro r w2 ⟨rfl, hb2⟩
  go_wp2
  go_ret
  exact ⟨rfl, below_more hb1 hb2 (Nat.le_refl _)⟩
end Go.Proofs.YtednmmmnkcbpjaaDoor
