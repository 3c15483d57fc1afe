/- The laws of NoteTone, NoteOf, VisitKind. -/
import Derived.Test.YtbkmfhdagnlgiaaNotes
import Derived.Test.YtbkmfhdagnlgiaaOpen
set_option linter.unusedVariables false
namespace Go.Proofs.Ytbkmfhdagnlgiaa
open Go.RowKit

theorem FnExactNoteTone_walk (v0 : Value) (w : World) (i0 : IsI64 w v0) :
    Calls Try.prog 4 #[v0] w fun e w' => e = .returned (.bool true) ∧ Below w.heap.size w w' := by
  obtain ⟨a, rfl, _⟩ := i0
  go_enter Try.func4, Try.ntmps4
  go_wp2_with (first | (go_at_call 17; refine (NoteTone_s _ _).mono ?_; rintro e w1 ⟨rfl, hb⟩) | (go_at_call 18; refine (NoteTone_i _ _).mono ?_; rintro e w' ⟨rfl, rfl⟩))
  go_ret
  exact ⟨rfl, hb⟩
theorem FnExactNoteOf_walk (v0 : Value) (w : World) (i0 : IsI64 w v0) :
    Calls Try.prog 8 #[v0] w fun e w' => e = .returned (.bool true) ∧ Below w.heap.size w w' := by
  obtain ⟨a, rfl, _⟩ := i0
  go_enter Try.func8, Try.ntmps8
  go_wp2_with (first | (go_at_call 26; refine (NoteOf_s _ _).mono ?_; rintro e w1 ⟨rfl, hb⟩) | (go_at_call 27; refine (NoteOf_i _ _).mono ?_; rintro e w' ⟨rfl, rfl⟩))
  go_ret
  exact ⟨rfl, hb⟩
theorem l22Kind_any (n : Int) (w : World) :
    Calls Try.prog 45 #[.int .i64 n] w fun e w' => e = .returned (.bool (inB n (1) (4))) ∧ w = w' := by
  go_enter Try.func45, Try.ntmps45
  go_wp2_with (go_at_call 70; refine (l00In_any _ _ _ _).mono ?_; rintro e w' ⟨rfl, rfl⟩)
  go_ret
  exact ⟨rfl, rfl⟩
theorem pick_no (a : Int) (s : Option Addr) (n c : Nat) (w : World) (h : atB a n = false) (hn : n ≤ 1000) :
    Calls Try.prog 47 #[.int .i64 a, .slice s n c] w fun e w' => e = .returned (.string ⟨#[]⟩) ∧ w = w' := by
  go_enter Try.func47, Try.ntmps47
  go_wp2_with (first | (go_at_call 71; refine (at_any _ _ _ (by omega)).mono ?_; rintro e w' ⟨rfl, rfl⟩))
  go_ret
  exact ⟨rfl, rfl⟩
def vkS (a : Int) : ByteArray := if a = 1 then ⟨#[114, 101, 112, 97, 105, 114]⟩ else if a = 2 then ⟨#[114, 101, 110, 116, 97, 108]⟩ else if a = 3 then ⟨#[115, 97, 108, 101]⟩ else if a = 4 then ⟨#[116, 117, 110, 101]⟩ else ⟨#[]⟩
theorem vkS_lo {a : Int} (h : a < 0) : vkS a = ⟨#[]⟩ := by unfold vkS; rw [if_neg (by omega), if_neg (by omega), if_neg (by omega), if_neg (by omega)]
theorem vkS_hi {a : Int} (h : 5 ≤ a) : vkS a = ⟨#[]⟩ := by unfold vkS; rw [if_neg (by omega), if_neg (by omega), if_neg (by omega), if_neg (by omega)]
set_option maxHeartbeats 2000000 in
theorem VisitKind_i (a : Int) (w : World) :
    Calls Try.prog 16 #[.int .i64 a] w fun e w' => e = .returned (.string (vkS a)) ∧ Below w.heap.size w w' := by
  have hc : a < 0 ∨ 5 ≤ a ∨ a = 0 ∨ a = 1 ∨ a = 2 ∨ a = 3 ∨ a = 4 := by omega
  rcases hc with h | h | rfl | rfl | rfl | rfl | rfl
  · rw [vkS_lo h]
    have hx := inB_no (n := a) (lo := 1) (hi := 4) (by omega)
    have hy := atB_no (i := a) (m := 5) (by omega)
    go_enter Try.func16, Try.ntmps16
    go_wp2_with (first | (go_at_call 47; refine (pick_no _ _ 5 _ _ hy (by omega)).mono ?_; rintro e w' ⟨rfl, rfl⟩) | (go_at_call 45; refine (l22Kind_any _ _).mono ?_; rintro e w' ⟨rfl, rfl⟩))
    go_ret
    exact ⟨rfl, by repeat (first | exact Below.refl _ _ | exact (Below.refl _ _).alloc (Nat.le_refl _) _)⟩
  · rw [vkS_hi h]
    have hx := inB_no (n := a) (lo := 1) (hi := 4) (by omega)
    have hy := atB_no (i := a) (m := 5) (by omega)
    go_enter Try.func16, Try.ntmps16
    go_wp2_with (first | (go_at_call 47; refine (pick_no _ _ 5 _ _ hy (by omega)).mono ?_; rintro e w' ⟨rfl, rfl⟩) | (go_at_call 45; refine (l22Kind_any _ _).mono ?_; rintro e w' ⟨rfl, rfl⟩))
    go_ret
    exact ⟨rfl, by repeat (first | exact Below.refl _ _ | exact (Below.refl _ _).alloc (Nat.le_refl _) _)⟩
  all_goals
    simp only [vkS]
    go_enter Try.func16, Try.ntmps16
    go_wp2
    go_ret
    exact ⟨rfl, by repeat (first | exact Below.refl _ _ | exact (Below.refl _ _).alloc (Nat.le_refl _) _)⟩
set_option maxHeartbeats 2000000 in
theorem VisitKind_s (a : Int) (w : World) :
    Calls Try.prog 15 #[.int .i64 a] w fun e w' => e = .returned (.string (vkS a)) ∧ Below w.heap.size w w' := by
  have hc : a < 0 ∨ 5 ≤ a ∨ a = 0 ∨ a = 1 ∨ a = 2 ∨ a = 3 ∨ a = 4 := by omega
  rcases hc with h | h | rfl | rfl | rfl | rfl | rfl
  · rw [vkS_lo h]
    have hx := inB_no (n := a) (lo := 1) (hi := 4) (by omega)
    have hy := atB_no (i := a) (m := 5) (by omega)
    go_enter Try.func15, Try.ntmps15
    go_wp2_with (first | (go_at_call 47; refine (pick_no _ _ 5 _ _ hy (by omega)).mono ?_; rintro e w' ⟨rfl, rfl⟩) | (go_at_call 45; refine (l22Kind_any _ _).mono ?_; rintro e w' ⟨rfl, rfl⟩))
    go_ret
    exact ⟨rfl, by repeat (first | exact Below.refl _ _ | exact (Below.refl _ _).alloc (Nat.le_refl _) _)⟩
  · rw [vkS_hi h]
    have hx := inB_no (n := a) (lo := 1) (hi := 4) (by omega)
    have hy := atB_no (i := a) (m := 5) (by omega)
    go_enter Try.func15, Try.ntmps15
    go_wp2_with (first | (go_at_call 47; refine (pick_no _ _ 5 _ _ hy (by omega)).mono ?_; rintro e w' ⟨rfl, rfl⟩) | (go_at_call 45; refine (l22Kind_any _ _).mono ?_; rintro e w' ⟨rfl, rfl⟩))
    go_ret
    exact ⟨rfl, by repeat (first | exact Below.refl _ _ | exact (Below.refl _ _).alloc (Nat.le_refl _) _)⟩
  all_goals
    simp only [vkS]
    go_enter Try.func15, Try.ntmps15
    go_wp2
    go_ret
    exact ⟨rfl, by repeat (first | exact Below.refl _ _ | exact (Below.refl _ _).alloc (Nat.le_refl _) _)⟩
theorem FnExactVisitKind_walk (v0 : Value) (w : World) (i0 : IsI64 w v0) :
    Calls Try.prog 3 #[v0] w fun e w' => e = .returned (.bool true) ∧ Below w.heap.size w w' := by
  obtain ⟨a, rfl, _⟩ := i0
  go_enter Try.func3, Try.ntmps3
  go_wp2_with (first | (go_at_call 15; refine (VisitKind_s _ _).mono ?_; rintro e w1 ⟨rfl, hb⟩) | (go_at_call 16; refine (VisitKind_i _ _).mono ?_; rintro e w2 ⟨rfl, hb2⟩))
  go_ret
  exact ⟨rfl, hb.trans (hb2.mono hb.size)⟩
end Go.Proofs.Ytbkmfhdagnlgiaa
