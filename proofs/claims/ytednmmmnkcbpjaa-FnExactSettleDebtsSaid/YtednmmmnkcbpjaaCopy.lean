/- Copies of rows and of plans; filling. -/
import Derived.Test.YtednmmmnkcbpjaaLines
import Derived.OwnWalk
import Derived.Test.YtednmmmnkcbpjaaApp
set_option linter.unusedVariables false
namespace Go.Proofs.Ytednmmmnkcbpjaa
open Go.RowKit

theorem own_less {w : World} {L L' n : Nat} {t : TypeId} {v : Value} {xs : List Value} (h : w.ownsRow L t 1 v n xs) (hL : L' ≤ L) : w.ownsRow L' t 1 v n xs := by
  refine ⟨h.1, ?_⟩
  rcases h.2 with hn | ⟨g, cap, cur, hv, hb, rest⟩
  · exact .inl hn
  · exact .inr ⟨g, cap, cur, hv, by omega, rest⟩
set_option maxRecDepth 100000 in
/-- append(v, zs...) to an empty row of the call's own -/
theorem appN {w : World} {ops : Array Oper} {rest : List Oper} {o : Oper} {a : Act} {Q : Exit → Act → World → Prop} (hgd : o.guard = none) (s x : Operand)
    (ho : o.op = .call { callee := .builtin .append, args := #[s, x], argTypes := #[24, 24] }) (L : Nat) (v : Value) (b ofs n c B : Nat) (zs : List Int) (hs : a.eval s = v) (hown : w.ownsRow L 2 1 v 0 [])
    (hx : a.eval x = .slice (some ⟨b, ofs, none⟩) n c) (hr : Rd w B 1 (some ⟨b, ofs, none⟩) n (iv zs)) (hL : L ≤ w.heap.size) (hn : n ≤ 1099511627776)
    (h : ∀ v' w', w'.ownsRow L 2 1 v' n (iv zs) → w.grownBy w' v.ownBlock → wpList Try.prog ops Q rest (a.put o.dst v') w') :
    wpList Try.prog ops Q (o :: rest) a w := by
  obtain ⟨i0, hi, hz0, hz1, hz2⟩ := info_parts info64
  refine wpList_append_own _ hgd s x 24 ho L 2 i0 (.int .i64 0) 1 8 Try.underlying24 hi hz0 hz1 hz2 rfl (by decide) v 0 [] hs hown ⟨b, ofs, none⟩ n c (iv zs) hx hr.1 ?_ (iv_one zs) ?_ ?_ hL ?_
  · intro j u hu
    have hj : 0 < n := by
      have := (List.getElem?_eq_some_iff.1 hu).1
      have := hr.1
      omega
    obtain ⟨b', o', e, hlt, hc⟩ := hr.2 hj
    injection e with e
    injection e with e1 e2
    subst e1 e2
    rw [show (⟨b, ofs, none⟩ : Addr).add j = ⟨b, ofs + j, none⟩ by unfold Addr.add; split <;> simp_all]
    exact hc j u hu
  · unfold maxLen; omega
  · omega
  · intro v' w' h1 h2 _
    exact h v' w' (by simpa using h1) h2
theorem make0_run {P : Program} {t e : TypeId} {z : Value} {k bytes : Nat} (ht : P.underlying t = some (.slice e)) (hi : (P.info? e).map (fun i => (i.zero, i.size, i.bytes)) = some (some z, k, bytes)) (n : Nat) (hb : bytes * n ≤ 281474976710656) (hm : n ≤ maxLen) :
    ∃ cs : Array Value, cs.size = n * k ∧ ∀ w : World, (Instr.makeSlice t (.int .i64 0) (.int .i64 (n : Int))).run P w = .ok (.slice (some ⟨w.heap.size, 0, none⟩) 0 n) (w.alloc (.cells cs e)) := by
  obtain ⟨i, hi2, hz, hs, hby⟩ := info_parts hi
  subst hs hby
  unfold maxLen at hm
  refine ⟨madeCells z.cells (n * i.size), size_madeCells _ _, fun w => ?_⟩
  have hb' : (i.bytes : Int) * (n : Int) ≤ 281474976710656 := by
    have h : ((i.bytes * n : Nat) : Int) ≤ 281474976710656 := by omega
    rwa [Int.natCast_mul] at h
  have := run_make (P := P) w t e i z ht hi2 hz .i64 .i64 0 n (by omega) (by omega) hb' (by omega)
  simpa using this
def RetV (t : TypeId) (w : World) (n : Nat) (zs : List Int) (e : Ending) (w' : World) : Prop := ∃ v, e = .returned v ∧ w'.ownsRow w.heap.size t 1 v n (iv zs) ∧ Below w.heap.size w w'
set_option maxHeartbeats 1000000 in
theorem l00Own_any (b o c n : Nat) (zs : List Int) (w : World) (h : Rd w w.heap.size 1 (some ⟨b, o, none⟩) n (iv zs)) (hn : n ≤ 1048576) :
    Calls Try.prog 43 #[.slice (some ⟨b, o, none⟩) n c] w (RetV 2 w n zs) := by
  have O0 := Lib.hid (own_empty w 2)
  have b0 := Lib.hid ((Below.refl w.heap.size w).alloc (Nat.le_refl _) (.cells #[] 2))
  have H := Lib.hid (h.below b0.out)
  have hsz : w.heap.size ≤ (w.alloc (.cells #[] 2)).heap.size := b0.out.size
  clear h
  go_enter Try.func43, Try.ntmps43
  go_wp2_with (at_builtin; refine appN rfl (.tmp 3) (.tmp 4) rfl w.heap.size (.slice (some ⟨w.heap.size, 0, none⟩) 0 0) b o n c w.heap.size zs rfl O0.out rfl H.out hsz (by omega) ?_; intro v1 w1 ho1 hg1)
  have b1 : Below w.heap.size w w1 := b0.out.grown hg1 hsz (fun k hk => (O0.out.lt k hk).1)
  go_ret
  exact ⟨v1, rfl, ho1, b1⟩
set_option maxHeartbeats 1000000 in
theorem clone_any (b o c n : Nat) (zs : List Int) (w : World) (h : Rd w w.heap.size 1 (some ⟨b, o, none⟩) n (iv zs)) (hn : n ≤ 1048576) :
    Calls Try.prog 46 #[.slice (some ⟨b, o, none⟩) n c] w (RetV 2 w n zs) := by
  obtain ⟨cs, hcs, hmk⟩ := make0_run (P := Try.prog) Try.underlying24 info64 n (by omega) (by unfold maxLen; omega)
  have O0 := Lib.hid (World.ownsRow_made (base := w.heap.size) (e := 2) (size := 1) w cs n (Nat.le_refl _) (by unfold maxLen; omega) hcs)
  have b0 := Lib.hid ((Below.refl w.heap.size w).alloc (Nat.le_refl _) (.cells cs 2))
  have H := Lib.hid (h.below b0.out)
  have hsz : w.heap.size ≤ (w.alloc (.cells cs 2)).heap.size := b0.out.size
  clear h hcs
  go_enter Try.func46, Try.ntmps46
  go_wp2_with (at_builtin; refine appN rfl (.tmp 5) (.tmp 6) rfl w.heap.size (.slice (some ⟨w.heap.size, 0, none⟩) 0 n) b o n c w.heap.size zs rfl O0.out rfl H.out hsz (by omega) ?_; intro v1 w1 ho1 hg1)
  have b1 : Below w.heap.size w w1 := b0.out.grown hg1 hsz (fun k hk => (O0.out.lt k hk).1)
  go_ret
  exact ⟨v1, rfl, ho1, b1⟩
end Go.Proofs.Ytednmmmnkcbpjaa
