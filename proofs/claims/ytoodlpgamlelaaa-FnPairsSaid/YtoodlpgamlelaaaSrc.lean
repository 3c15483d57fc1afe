/- The source of bytes that the reference draws values from. -/
import Derived.Test.YtoodlpgamlelaaaLines
import Derived.Test.YtoodlpgamlelaaaBytes
import Derived.Test.YtoodlpgamlelaaaBase
import Derived.Laws.BitsLemmas
import Derived.Laws.Bits64
set_option linter.unusedVariables false
namespace Go.Proofs.Ytoodlpgamlelaaa
open Go.RowKit

/-- a source at block g over the slice A, of which at most M bytes have been asked for -/
def Src (w : World) (g : Nat) (A : Option Addr) (n c M : Nat) : Prop := ∃ (p : Nat) (seed : Int), p ≤ M ∧ 0 ≤ seed ∧ seed ≤ 18446744073709551615 ∧ Blk w g 73 #[.slice A n c, .int .i64 p, .int .u64 seed]
theorem Src.lt {w : World} {g : Nat} {A : Option Addr} {n c M : Nat} (h : Src w g A n c M) : g < w.heap.size := by obtain ⟨p, s, _, _, _, hb⟩ := h; exact hb.lt
theorem Src.below {w w' : World} {g B : Nat} {A : Option Addr} {n c M : Nat} (h : Src w g A n c M) (hb : Below B w w') (hg : g < B) : Src w' g A n c M := by obtain ⟨p, s, h1, h2, h3, hk⟩ := h; exact ⟨p, s, h1, h2, h3, hk.below hb hg⟩
theorem Src.mono {w : World} {g : Nat} {A : Option Addr} {n c M M' : Nat} (h : Src w g A n c M) (hm : M ≤ M') : Src w g A n c M' := by obtain ⟨p, s, h1, h2, h3, hk⟩ := h; exact ⟨p, s, by omega, h2, h3, hk⟩
theorem wrapS (x : Int) : 0 ≤ IntKind.u64.wrap x ∧ IntKind.u64.wrap x ≤ 18446744073709551615 := by rw [IntKind.wrap_u64]; omega
theorem wraps63 (n : Int) (h₀ : 0 ≤ n) (h₁ : n < 2 ^ 63) : IntKind.u64.wrap n = n := by rw [IntKind.wrap_u64]; omega
theorem tch_set2 (w : World) (g m : Nat) (x y : Value) : Tch g (g + 1) w (((w.drewN m).setCell ⟨g, 1, none⟩ x).setCell ⟨g, 2, none⟩ y) := by
  refine ⟨rfl, rfl, rfl, by simp, fun k hk hg => ?_⟩
  rw [Below.heap_setCell _ _ _ _ (by simp; omega), Below.heap_setCell _ _ _ _ (by simp; omega)]; rfl
theorem Tch.drewN {lo hi : Nat} {w w' : World} (h : Tch lo hi w w') (m : Nat) : Tch lo hi w (w'.drewN m) := ⟨h.os, h.tape, h.output, h.size, h.block⟩
set_option maxHeartbeats 1000000 in
theorem srcNext_any (g : Nat) (A : Option Addr) (n c M : Nat) (bs : List Int) (w : World) (h : Src w g A n c M) (hr : Rd w g 1 A n (bv bs)) (hb : ∀ b ∈ bs, byteR b) (hn : n ≤ 1048576) (hM : M ≤ 1000000000) :
    Calls Try.prog 48 #[.pointer (some ⟨g, 0, none⟩)] w fun e w' => (∃ x : Int, e = .returned (.int .i64 x) ∧ 0 ≤ x ∧ x ≤ 255) ∧ Src w' g A n c (M + 1) ∧ Tch g (g + 1) w w' := by
  obtain ⟨p, seed, hp, s0, s1, hk⟩ := h
  have hl : bs.length = n := by have := hr.1; rw [bv_len] at this; omega
  have hc0 := hk.cell
  have hf := hk.frozen
  by_cases hlt : p < n
  · obtain ⟨b, o, rfl, hbg, hcs⟩ := hr.2 (by omega)
    obtain ⟨z, hz, hzm⟩ := getD_of (l := bs) (i := p) (by omega)
    have c0 : w.cell? ⟨b, o + p, none⟩ = some (.int .u8 z) := hcs p _ (by simp [bv, hz])
    have zb := hb z hzm
    unfold byteR at zb
    clear hcs hz hzm hl hb hr
    have hn0 : (0 : Int) ≤ p := by omega
    have hn1 : (p : Int) < n := by omega
    have K := Lib.hid hk
    clear hk
    go_enter Try.func48, Try.ntmps48
    go_wp2_with fail
    go_quiet (fail)
    go_wp2_with fail
    go_quiet (fail)
    go_wp2_with fail
    rename_i nq0 k1 a1 k2 a2
    obtain ⟨S, hS⟩ : ∃ S, S = IntKind.u64.wrap (IntKind.u64.wrap (IntKind.u64.wrap (seed * 6364136223846793005) + z) + 1442695040888963407) := ⟨_, rfl⟩
    have sb := wrapS (IntKind.u64.wrap (IntKind.u64.wrap (seed * 6364136223846793005) + z) + 1442695040888963407)
    rw [← hS] at sb ⊢
    obtain ⟨P, hP⟩ : ∃ P : Nat, (P : Int) = p + 1 := ⟨p + 1, by omega⟩
    rw [← hP]
    have K2 := ((K.out.drewN (nq0 + nq)).set_ 1 (.int .i64 P)).set_ 2 (.int .u64 S)
    have T2 : Tch g (g + 1) w (((w.drewN (nq0 + nq)).setCell ⟨g, 1, none⟩ (.int .i64 P)).setCell ⟨g, 2, none⟩ (.int .u64 S)) := tch_set2 w g (nq0 + nq) _ _
    generalize (((w.drewN (nq0 + nq)).setCell ⟨g, 1, none⟩ (.int .i64 P)).setCell ⟨g, 2, none⟩ (.int .u64 S)) = W at K2 T2 ⊢
    have hc := K2.cell
    simp at hc
    have K2 := Lib.hid K2
    have hp1 : (P : Int) ≤ n := by omega
    clear hc0 hf K hS c0
    go_quiet (fail)
    go_wp2
    go_ret
    exact ⟨⟨z, rfl, zb.1, zb.2⟩, ⟨P, S, by omega, sb.1, sb.2, K2.out.drewN _⟩, T2.drewN _⟩
  · have hn0 : (0 : Int) ≤ p := by omega
    have hn1 : ¬ (p : Int) < n := by omega
    have hn2 : decide ((p : Int) < n) = false := decide_eq_false hn1
    have K := Lib.hid hk
    clear hk hb hr hl
    go_enter Try.func48, Try.ntmps48
    go_wp2_with fail
    go_quiet (fail)
    go_wp2_with fail
    rename_i k1 a1 k2 a2
    obtain ⟨S, hS⟩ : ∃ S, S = IntKind.u64.wrap (IntKind.u64.wrap (IntKind.u64.wrap (seed * 6364136223846793005)) + 1442695040888963407) := ⟨_, rfl⟩
    have sb := wrapS (IntKind.u64.wrap (IntKind.u64.wrap (seed * 6364136223846793005)) + 1442695040888963407)
    rw [← hS] at sb ⊢
    obtain ⟨P, hP⟩ : ∃ P : Nat, (P : Int) = p + 1 := ⟨p + 1, by omega⟩
    rw [← hP]
    have K2 := ((K.out.drewN nq).set_ 1 (.int .i64 P)).set_ 2 (.int .u64 S)
    have T2 : Tch g (g + 1) w (((w.drewN nq).setCell ⟨g, 1, none⟩ (.int .i64 P)).setCell ⟨g, 2, none⟩ (.int .u64 S)) := tch_set2 w g nq _ _
    generalize (((w.drewN nq).setCell ⟨g, 1, none⟩ (.int .i64 P)).setCell ⟨g, 2, none⟩ (.int .u64 S)) = W at K2 T2 ⊢
    have hc := K2.cell
    simp at hc
    have K2 := Lib.hid K2
    have hp1 : ¬ (P : Int) ≤ n := by omega
    have hp2 : decide ((P : Int) ≤ n) = false := decide_eq_false hp1
    obtain ⟨q, hq⟩ : ∃ q, S / 1099511627776 = q := ⟨_, rfl⟩
    have qb : 0 ≤ q ∧ q < 16777216 := by omega
    have qm : bits .and .u64 q 255 = q % 256 := bits_mask .u64 63 (by decide) wraps63 8 (by decide) q qb.1 (by omega)
    have hq2 : S / 2 ^ 40 = q := hq
    clear hc0 hf K hS
    go_quiet (fail)
    go_wp2
    go_ret
    exact ⟨⟨_, rfl, by omega, by omega⟩, ⟨P, S, by omega, sb.1, sb.2, K2.out.drewN _⟩, T2.drewN _⟩
/-- a source at block g, whatever it draws from -/
def SrcS (w : World) (g M : Nat) : Prop := ∃ (A : Option Addr) (n c : Nat) (bs : List Int), n ≤ 1048576 ∧ (∀ b ∈ bs, byteR b) ∧ Rd w g 1 A n (bv bs) ∧ Src w g A n c M
section
variable {w w' : World} {g M : Nat}
theorem SrcS.lt (h : SrcS w g M) : g < w.heap.size := by obtain ⟨A, n, c, bs, _, _, _, hs⟩ := h; exact hs.lt
theorem SrcS.mono {M' : Nat} (h : SrcS w g M) (hm : M ≤ M') : SrcS w g M' := by obtain ⟨A, n, c, bs, h1, h2, h3, hs⟩ := h; exact ⟨A, n, c, bs, h1, h2, h3, hs.mono hm⟩
theorem SrcS.below {B : Nat} (h : SrcS w g M) (hb : Below B w w') (hg : g < B) : SrcS w' g M := by
  obtain ⟨A, n, c, bs, h1, h2, h3, hs⟩ := h
  exact ⟨A, n, c, bs, h1, h2, h3.below (hb.mono (by omega)), hs.below hb hg⟩
theorem SrcS.tch {lo hi : Nat} (h : SrcS w g M) (ht : Tch lo hi w w') (hg : g < lo) : SrcS w' g M := by
  obtain ⟨A, n, c, bs, h1, h2, h3, p, s, q1, q2, q3, hk⟩ := h
  have hl := hk.lt
  refine ⟨A, n, c, bs, h1, h2, h3.below (ht.below (Below.refl g w) (by omega) (by omega)), p, s, q1, q2, q3, ?_⟩
  exact (ht.block g hl (.inl hg)).trans hk
end
theorem nextS_any (g M : Nat) (w : World) (h : SrcS w g M) (hM : M ≤ 1000000000) :
    Calls Try.prog 48 #[.pointer (some ⟨g, 0, none⟩)] w fun e w' => (∃ x : Int, e = .returned (.int .i64 x) ∧ 0 ≤ x ∧ x ≤ 255) ∧ SrcS w' g (M + 1) ∧ Tch g (g + 1) w w' := by
  obtain ⟨A, n, c, bs, h1, h2, h3, hs⟩ := h
  have hl := hs.lt
  refine (srcNext_any g A n c M bs w hs h3 h2 h1 hM).mono ?_
  rintro e w' ⟨hx, hs', ht⟩
  exact ⟨hx, ⟨A, n, c, bs, h1, h2, h3.below (ht.below (Below.refl g w) (Nat.le_refl _) (by omega)), hs'⟩, ht⟩
set_option maxHeartbeats 1000000 in
theorem pick_any (g M : Nat) (m : Int) (w : World) (h : SrcS w g M) (hM : M ≤ 100000000) (m1 : 1 ≤ m) (m2 : m ≤ 100000) :
    Calls Try.prog 37 #[.pointer (some ⟨g, 0, none⟩), .int .i64 m] w fun e w' => (∃ x : Int, e = .returned (.int .i64 x) ∧ 0 ≤ x ∧ x ≤ m - 1) ∧ SrcS w' g (M + 2) ∧ Tch g (g + 1) w w' := by
  have H := Lib.hid h
  by_cases hm : m ≤ 1
  · go_enter Try.func37, Try.ntmps37
    go_wp2
    go_ret
    exact ⟨⟨0, rfl, by omega, by omega⟩, H.out.mono (by omega), Tch.refl _ _ _⟩
  · have CN := nextS_any g M w h (by omega)
    clear h
    by_cases hb : 200 < m
    · go_enter Try.func37, Try.ntmps37
      go_wp2_with fail
      refine CN.mono ?_
      rintro r w1 ⟨⟨x, rfl, x0, x1⟩, hs1, ht1⟩
      have T1 := Lib.hid ht1
      have CN2 := nextS_any g (M + 1) w1 hs1 (by omega)
      clear ht1 CN hs1
      go_wp2_with fail
      refine CN2.mono ?_
      rintro r w2 ⟨⟨y, rfl, y0, y1⟩, hs2, ht2⟩
      have T2 := Lib.hid (T1.out.trans ht2)
      have HS2 := Lib.hid hs2
      clear ht2 hs2 T1 CN2
      have hz0 : (m == 0) = false := by rw [Bool.eq_false_iff]; simp; omega
      have e1 := Int.emod_nonneg (x * 256 + y) (show m ≠ 0 by omega)
      have e2 := Int.emod_lt_of_pos (x * 256 + y) (show 0 < m by omega)
      go_wp2
      go_ret
      exact ⟨⟨_, rfl, e1, by omega⟩, HS2.out, T2.out⟩
    · go_enter Try.func37, Try.ntmps37
      go_wp2_with fail
      refine CN.mono ?_
      rintro r w1 ⟨⟨x, rfl, x0, x1⟩, hs1, ht1⟩
      have T1 := Lib.hid ht1
      have HS1 := Lib.hid (hs1.mono (show M + 1 ≤ M + 2 by omega))
      clear ht1 hs1 CN
      have hz0 : (m == 0) = false := by rw [Bool.eq_false_iff]; simp; omega
      have e1 := Int.emod_nonneg x (show m ≠ 0 by omega)
      have e2 := Int.emod_lt_of_pos x (show 0 < m by omega)
      go_wp2
      go_ret
      exact ⟨⟨_, rfl, e1, by omega⟩, HS1.out, T1.out⟩
theorem l00From_any (A : Option Addr) (c n : Nat) (bs : List Int) (w : World) (h : Rd w w.heap.size 1 A n (bv bs)) (hb : ∀ b ∈ bs, byteR b) (hn : n ≤ 1048576) :
    Calls Try.prog 18 #[.slice A n c] w fun e w' => e = .returned (.pointer (some ⟨w.heap.size, 0, none⟩)) ∧ SrcS w' w.heap.size 0 ∧ Below w.heap.size w w' := by
  have H : Hid (SrcS (w.alloc (.cells #[.slice A n c, .int .i64 0, .int .u64 0] 73)) w.heap.size 0) := Lib.hid ⟨A, n, c, bs, hn, hb, h.below ((Below.refl _ _).alloc (Nat.le_refl _) _), 0, 0, by omega, by omega, by omega, Blk.new w _ _⟩
  clear h hb
  go_enter Try.func18, Try.ntmps18
  go_wp2
  go_ret
  exact ⟨rfl, H.out, (Below.refl _ _).alloc (Nat.le_refl _) _⟩
end Go.Proofs.Ytoodlpgamlelaaa
