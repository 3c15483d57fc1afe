/- The law of CountSetUps. -/
import Derived.Test.YtemkggecempmgaaSetUpS
import Derived.Test.YtemkggecempmgaaInts2
import Derived.Test.YtemkggecempmgaaOpenC
import Derived.Test.YtemkggecempmgaaOpenI
set_option linter.unusedVariables false
namespace Go.Proofs.Ytemkggecempmgaa
open Go.RowKit

theorem rd_blk {w : World} {g n : Nat} {ds : List CordD} (h : Blk w g 39 (ds.flatMap cordF).toArray) (hn : ds.length = n) : Rd w w.heap.size 4 (some ⟨g, 0, none⟩) n (ds.flatMap cordF) :=
  Rd.blk h (by rw [flat_len cordF_len, hn]) h.lt
set_option maxRecDepth 100000 in
set_option maxHeartbeats 4000000 in
theorem FnExactCountSetUps_walk (v0 v1 v2 v3 v4 : Value) (w : World) (i0 : IsCordS w v0) (i1 : IsI64SS w v1) (i2 : IsI64 w v2) (i3 : IsI64 w v3) (i4 : IsI64 w v4) :
    Calls Try.prog 4 #[v0, v1, v2, v3, v4] w fun e w' => e = .returned (.bool true) ∧ Below w.heap.size w w' := by
  obtain ⟨LA, n, lc, cs, rfl, hn, hnm, hl, _⟩ := i0
  obtain ⟨GA, m, gc, gs, rfl, hmm, hg, hr⟩ := i1
  obtain ⟨most, rfl, _⟩ := i2
  obtain ⟨share, rfl, _⟩ := i3
  obtain ⟨budget, rfl, _⟩ := i4
  have HL := Lib.hid hl
  have HG := Lib.hid hg
  have HR := Lib.hid hr
  have HN := Lib.hid hn
  clear hl hg hr hn
  have n2 := hnm
  have m2 := hmm
  unfold maxLen at n2 m2
  go_enter Try.func4, Try.ntmps4
  go_wp2_with fail
  refine (szCordS_any LA lc n _ w (by omega) (by omega) hnm).mono ?_
  rintro r w1 ⟨q, hq, rfl, hb1⟩
  have b1 := Lib.hid hb1
  clear hb1
  rcases hq with rfl | ⟨q0, q1⟩
  · go_wp2
    go_ret
    exact ⟨rfl, b1.out⟩
  go_wp2_with fail
  refine (szInt64SS_any GA gc m gs _ w1 (HG.out.next b1.out) HR.out q0 (by omega) hmm).mono ?_
  rintro r w2 ⟨q', hq', rfl, hb2⟩
  have b2 := Lib.hid (below_more b1.out hb2 (Nat.le_refl _))
  clear hb2 b1
  rcases hq' with rfl | ⟨q0', q1'⟩
  · go_wp2
    go_ret
    exact ⟨rfl, b2.out⟩
  have nn : n ≤ 1048576 := by omega
  have mm : m + tot gs ≤ 1048576 := by omega
  have m1 : m ≤ 1048576 := by omega
  clear q1 q1'
  go_wp2_with fail
  refine (toCordS_any LA lc n cs w2 HN.out (HL.out.next b2.out) nn).mono ?_
  rintro r w3 ⟨rfl, k3, hb3⟩
  have b3 := Lib.hid (below_more b2.out hb3 (Nat.le_refl _))
  have L3 := Lib.hid (rd_blk k3 HN.out)
  clear hb3 k3 b2
  go_wp2_with fail
  refine (toInt64SS_any GA gc m gs w3 (HG.out.next b3.out) mm).mono ?_
  rintro r w4 ⟨rfl, o4, hb4⟩
  have b4 := Lib.hid (below_more b3.out hb4 (Nat.le_refl _))
  have L4 := Lib.hid (L3.out.next hb4)
  have G4 := Lib.hid (o4.reads.all (Nat.le_refl _))
  clear hb4 o4 b3 L3
  go_wp2_with fail
  refine (CountSetUps_s _ _ _ _ n m cs gs most share budget w4 HN.out L4.out G4.out HR.out nn m1).mono ?_
  rintro r w5 ⟨rfl, hb5⟩
  have b5 := Lib.hid (below_more b4.out hb5 (Nat.le_refl _))
  clear hb5 b4 L4 G4
  go_wp2_with fail
  refine (toCordS_any LA lc n cs w5 HN.out (HL.out.next b5.out) nn).mono ?_
  rintro r w6 ⟨rfl, k6, hb6⟩
  have b6 := Lib.hid (below_more b5.out hb6 (Nat.le_refl _))
  have L6 := Lib.hid (rd_blk k6 HN.out)
  clear hb6 k6 b5
  go_wp2_with fail
  refine (toInt64SS_any GA gc m gs w6 (HG.out.next b6.out) mm).mono ?_
  rintro r w7 ⟨rfl, o7, hb7⟩
  have b7 := Lib.hid (below_more b6.out hb7 (Nat.le_refl _))
  have L7 := Lib.hid (L6.out.next hb7)
  have G7 := Lib.hid (o7.reads.all (Nat.le_refl _))
  clear hb7 o7 b6 L6
  go_wp2_with fail
  refine (CountSetUps_i _ _ _ _ n m cs gs most share budget w7 HN.out L7.out G7.out HR.out nn m1).mono ?_
  rintro r w8 ⟨rfl, hb8⟩
  have b8 := Lib.hid (below_more b7.out hb8 (Nat.le_refl _))
  have L8 := Lib.hid (L7.out.next hb8)
  have G8 := Lib.hid (G7.out.next hb8)
  clear hb8 b7 L7 G7
  go_wp2_with fail
  refine (toCordS_any LA lc n cs w8 HN.out (HL.out.next b8.out) nn).mono ?_
  rintro r w9 ⟨rfl, k9, hb9⟩
  have b9 := Lib.hid (below_more b8.out hb9 (Nat.le_refl _))
  have L9 := Lib.hid (rd_blk k9 HN.out)
  have X9 := Lib.hid (L8.out.next hb9)
  have G9 := Lib.hid (G8.out.next hb9)
  clear hb9 k9 b8 L8 G8
  go_wp2_with fail
  refine (eqCordS_refl _ _ _ _ n cs w9 HN.out X9.out L9.out nn).mono ?_
  rintro r w10 ⟨rfl, hb10⟩
  have b10 := Lib.hid (below_more b9.out hb10 (Nat.le_refl _))
  have G10 := Lib.hid (G9.out.next hb10)
  clear hb10 b9 L9 X9 G9
  go_wp2_with fail
  refine (toInt64SS_any GA gc m gs w10 (HG.out.next b10.out) mm).mono ?_
  rintro r w11 ⟨rfl, o11, hb11⟩
  have b11 := Lib.hid (below_more b10.out hb11 (Nat.le_refl _))
  have G11 := Lib.hid (G10.out.next hb11)
  have Y11 := Lib.hid (o11.reads.all (Nat.le_refl _))
  clear hb11 o11 b10 G10
  go_wp2_with fail
  refine (eqInt64SS_refl _ _ _ _ m gs w11 G11.out Y11.out hmm HR.out).mono ?_
  rintro r w12 ⟨rfl, hb12⟩
  go_wp2
  go_ret
  exact ⟨rfl, below_more b11.out hb12 (Nat.le_refl _)⟩
end Go.Proofs.Ytemkggecempmgaa
