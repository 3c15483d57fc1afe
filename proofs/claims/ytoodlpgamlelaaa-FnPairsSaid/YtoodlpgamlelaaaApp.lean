/- append of one number to a row of the call's own. -/
import Derived.Test.YtoodlpgamlelaaaInts
import Derived.OwnWalk
set_option linter.unusedVariables false
namespace Go.Proofs.Ytoodlpgamlelaaa
open Go.RowKit

theorem app1 {w : World} {ops : Array Oper} {rest : List Oper} {o : Oper} {a : Act} {Q : Exit → Act → World → Prop} (hgd : o.guard = none) (s x : Operand)
    (ho : o.op = .call { callee := .builtin .append, args := #[s, x], argTypes := #[31, 31] }) (L : Nat) (v : Value) (zs : List Int) (z : Int) (hs : a.eval s = v) (hown : w.ownsRow L 2 1 v zs.length (iv zs))
    (hx : a.eval x = .slice (some ⟨w.heap.size, 0, none⟩) 1 1) (hL : L ≤ w.heap.size) (hn : zs.length ≤ 1099511627776)
    (h : ∀ v' w', w'.ownsRow L 2 1 v' (zs ++ [z]).length (iv (zs ++ [z])) → Below L w w' → wpList Try.prog ops Q rest (a.put o.dst v') w') :
    wpList Try.prog ops Q (o :: rest) a (w.alloc (.cells #[.int .i64 z] 2)) := by
  obtain ⟨i0, hi, hz0, hz1, hz2⟩ := info_parts info64
  refine wpList_append_own _ hgd s x 31 ho L 2 i0 (.int .i64 0) 1 8 Try.underlying31 hi hz0 hz1 hz2 rfl (by decide) v zs.length (iv zs) hs (hown.alloc _) ⟨w.heap.size, 0, none⟩ 1 1 [.int .i64 z] hx rfl ?_ ?_ ?_ ?_ ?_ ?_
  · intro j u hu
    match j, hu with
    | 0, hu =>
      simp at hu
      subst hu
      exact (Blk.new w 2 #[.int .i64 z]).cell 0
    | j + 1, hu => simp at hu
  · intro u hu
    simp at hu
    subst hu
    rfl
  · unfold maxLen; omega
  · omega
  · simp; omega
  · intro v' w' h1 h2 _
    refine h v' w' (by simpa [iv_append, iv] using h1) ?_
    have b1 : Below L w (w.alloc (.cells #[.int .i64 z] 2)) := (Below.refl L w).alloc hL _
    exact b1.grown h2 (by simp; omega) fun k hk => (hown.lt k hk).1
/-- the empty row: []int64{} -/
theorem own_empty (w : World) (t : TypeId) : (w.alloc (.cells #[] t)).ownsRow w.heap.size t 1 (.slice (some ⟨w.heap.size, 0, none⟩) 0 0) 0 [] :=
  World.ownsRow_lit w #[] 0 (Nat.le_refl _) (Nat.zero_le _) (by simp)
end Go.Proofs.Ytoodlpgamlelaaa
