/- CostOf, PriceOf, PaidFor, EndOf, DueBy, PegAt, WayIn and the like: the program's and the reference's return the same plain function. -/
import Derived.Test.YtgbpkblhokjbbaaQuotes
set_option linter.unusedVariables false
namespace Go.Proofs.Ytgbpkblhokjbbaa
open Go.RowKit

theorem ret_pair {a b c d : Int} (h : a = c) (g : b = d) : Ending.returned (.tuple #[.int .i64 a, .int .i64 b]) = .returned (.tuple #[.int .i64 c, .int .i64 d]) := by rw [h, g]
def costL (s0 : ByteArray) (a1 a2 a3 a4 : Int) : Int × Int := if quoteB s0 a1 a2 a3 a4 = true then (qCost a1 a2 a3, 0) else (0, 1)
def priceL (s0 : ByteArray) (a1 a2 a3 a4 : Int) : Int × Int := if quoteB s0 a1 a2 a3 a4 = true then (qPrice a1 a2 a3 a4, 0) else (0, 1)
set_option maxHeartbeats 1000000 in
theorem CostOf_i (s0 : ByteArray) (a1 a2 a3 a4 : Int) (w : World) (z0 : s0.size ≤ maxLen) :
    Calls Try.prog 22 #[quoteV s0 a1 a2 a3 a4] w fun e w' => e = .returned (.tuple #[.int .i64 (costL s0 a1 a2 a3 a4).1, .int .i64 (costL s0 a1 a2 a3 a4).2]) ∧ Below w.heap.size w w' := by
  have hk := Lib.hid (Blk.new w 34 #[.string s0, .int .i64 a1, .int .i64 a2, .int .i64 a3, .int .i64 a4])
  have hb0 := Lib.hid ((Below.refl w.heap.size w).alloc (Nat.le_refl _) (.cells #[.string s0, .int .i64 a1, .int .i64 a2, .int .i64 a3, .int .i64 a4] 34))
  cases h : quoteB s0 a1 a2 a3 a4
  · simp only [costL, h]
    go_enter Try.func22, Try.ntmps22
    go_wp2_with fail
    refine (quotevalid_is h _ z0).mono ?_
    rintro r w1 ⟨rfl, hb1⟩
    go_wp2
    go_ret2
    exact ⟨rfl, below_more hb0.out hb1 (Nat.le_refl _)⟩
  · simp only [costL, h, if_true]
    have q := quoteB_t h
    go_enter Try.func22, Try.ntmps22
    go_wp2_with fail
    refine (quotevalid_is h _ z0).mono ?_
    rintro r w1 ⟨rfl, hb1⟩
    have hc := (hk.out.below hb1 hk.out.lt).cell
    go_wp2_with fail
    refine (qcost_i _ _ _ _ _ _ q.2.1 q.2.2.1 q.2.2.2.1).mono ?_
    rintro r w2 ⟨rfl, hb2⟩
    go_wp2
    go_ret2
    exact ⟨rfl, below_more (below_more hb0.out hb1 (Nat.le_refl _)) hb2 (Nat.le_refl _)⟩
set_option maxHeartbeats 1000000 in
theorem PriceOf_i (s0 : ByteArray) (a1 a2 a3 a4 : Int) (w : World) (z0 : s0.size ≤ maxLen) :
    Calls Try.prog 24 #[quoteV s0 a1 a2 a3 a4] w fun e w' => e = .returned (.tuple #[.int .i64 (priceL s0 a1 a2 a3 a4).1, .int .i64 (priceL s0 a1 a2 a3 a4).2]) ∧ Below w.heap.size w w' := by
  have hk := Lib.hid (Blk.new w 34 #[.string s0, .int .i64 a1, .int .i64 a2, .int .i64 a3, .int .i64 a4])
  have hb0 := Lib.hid ((Below.refl w.heap.size w).alloc (Nat.le_refl _) (.cells #[.string s0, .int .i64 a1, .int .i64 a2, .int .i64 a3, .int .i64 a4] 34))
  cases h : quoteB s0 a1 a2 a3 a4
  · simp only [priceL, h]
    go_enter Try.func24, Try.ntmps24
    go_wp2_with fail
    refine (quotevalid_is h _ z0).mono ?_
    rintro r w1 ⟨rfl, hb1⟩
    go_wp2
    go_ret2
    exact ⟨rfl, below_more hb0.out hb1 (Nat.le_refl _)⟩
  · simp only [priceL, h, if_true]
    have q := quoteB_t h
    go_enter Try.func24, Try.ntmps24
    go_wp2_with fail
    refine (quotevalid_is h _ z0).mono ?_
    rintro r w1 ⟨rfl, hb1⟩
    have hc := (hk.out.below hb1 hk.out.lt).cell
    go_wp2_with fail
    refine (qprice_i _ _ _ _ _ _ q.2.1 q.2.2.1 q.2.2.2.1 q.2.2.2.2).mono ?_
    rintro r w2 ⟨rfl, hb2⟩
    go_wp2
    go_ret2
    exact ⟨rfl, below_more (below_more hb0.out hb1 (Nat.le_refl _)) hb2 (Nat.le_refl _)⟩
set_option maxHeartbeats 1000000 in
theorem CostOf_s (s0 : ByteArray) (a1 a2 a3 a4 : Int) (w : World) (z0 : s0.size ≤ maxLen) :
    Calls Try.prog 20 #[quoteV s0 a1 a2 a3 a4] w fun e w' => e = .returned (.tuple #[.int .i64 (costL s0 a1 a2 a3 a4).1, .int .i64 (costL s0 a1 a2 a3 a4).2]) ∧ Below w.heap.size w w' := by
  have hk := Lib.hid (Blk.new w 34 #[.string s0, .int .i64 a1, .int .i64 a2, .int .i64 a3, .int .i64 a4])
  have hb0 := Lib.hid ((Below.refl w.heap.size w).alloc (Nat.le_refl _) (.cells #[.string s0, .int .i64 a1, .int .i64 a2, .int .i64 a3, .int .i64 a4] 34))
  cases h : quoteB s0 a1 a2 a3 a4
  · simp only [costL, h]
    go_enter Try.func20, Try.ntmps20
    go_wp2_with fail
    refine (quoteone_is h _ z0 hk.out).mono ?_
    rintro r w' ⟨rfl, rfl⟩
    go_wp2
    go_ret2
    exact ⟨rfl, hb0.out⟩
  · simp only [costL, h, if_true]
    have q := quoteB_t h
    go_enter Try.func20, Try.ntmps20
    go_wp2_with fail
    refine (quoteone_is h _ z0 hk.out).mono ?_
    rintro r w' ⟨rfl, rfl⟩
    go_wp2_with fail
    refine (qcost_s _ _ _ _ _ _ _ q.2.1 q.2.2.1 q.2.2.2.1 hk.out).mono ?_
    rintro r w2 ⟨rfl, hb2⟩
    go_wp2
    go_ret2
    exact ⟨rfl, below_more hb0.out hb2 (Nat.le_refl _)⟩
set_option maxHeartbeats 1000000 in
theorem PriceOf_s (s0 : ByteArray) (a1 a2 a3 a4 : Int) (w : World) (z0 : s0.size ≤ maxLen) :
    Calls Try.prog 23 #[quoteV s0 a1 a2 a3 a4] w fun e w' => e = .returned (.tuple #[.int .i64 (priceL s0 a1 a2 a3 a4).1, .int .i64 (priceL s0 a1 a2 a3 a4).2]) ∧ Below w.heap.size w w' := by
  have hk := Lib.hid (Blk.new w 34 #[.string s0, .int .i64 a1, .int .i64 a2, .int .i64 a3, .int .i64 a4])
  have hb0 := Lib.hid ((Below.refl w.heap.size w).alloc (Nat.le_refl _) (.cells #[.string s0, .int .i64 a1, .int .i64 a2, .int .i64 a3, .int .i64 a4] 34))
  cases h : quoteB s0 a1 a2 a3 a4
  · simp only [priceL, h]
    go_enter Try.func23, Try.ntmps23
    go_wp2_with fail
    refine (quoteone_is h _ z0 hk.out).mono ?_
    rintro r w' ⟨rfl, rfl⟩
    go_wp2
    go_ret2
    exact ⟨rfl, hb0.out⟩
  · simp only [priceL, h, if_true]
    have q := quoteB_t h
    go_enter Try.func23, Try.ntmps23
    go_wp2_with fail
    refine (quoteone_is h _ z0 hk.out).mono ?_
    rintro r w' ⟨rfl, rfl⟩
    go_wp2_with fail
    refine (qprice_s _ _ _ _ _ _ _ q.2.1 q.2.2.1 q.2.2.2.1 q.2.2.2.2 hk.out).mono ?_
    rintro r w2 ⟨rfl, hb2⟩
    go_wp2
    go_ret2
    exact ⟨rfl, below_more hb0.out hb2 (Nat.le_refl _)⟩
end Go.Proofs.Ytgbpkblhokjbbaa
