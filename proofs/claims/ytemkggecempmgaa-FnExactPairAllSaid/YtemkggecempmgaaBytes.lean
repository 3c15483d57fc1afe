/- Bytes that choices are drawn from (r8At, r8Wide). -/
import Derived.Test.YtemkggecempmgaaRd
import Derived.Test.YtemkggecempmgaaBase
import Derived.Test.YtemkggecempmgaaOpenS
set_option linter.unusedVariables false
namespace Go.Proofs.Ytemkggecempmgaa
open Go.ChangeShapes Go.WideShapes Go.ChangeAt Go.RowKit

def bv (bs : List Int) : List Value := bs.map (Value.int .u8)
theorem bv_len (bs : List Int) : (bv bs).length = bs.length := by simp [bv]
def rAt (bs : List Int) (k m : Int) : Int := if (bs.length : Int) ≤ k then 0 else bs.getD k.toNat 0 % m
theorem rAt_bd (bs : List Int) (k : Int) {m : Int} (hm : 1 ≤ m) : 0 ≤ rAt bs k m ∧ rAt bs k m ≤ m - 1 := by
  unfold rAt
  split
  · omega
  · have a := Int.emod_nonneg (bs.getD k.toNat 0) (show m ≠ 0 by omega)
    have b := Int.emod_lt_of_pos (bs.getD k.toNat 0) (show 0 < m by omega)
    omega
def rWide (bs : List Int) (k m : Int) : Int := (256 * rAt bs k 256 + rAt bs (k + 1) 256) % m
theorem rWide_bd (bs : List Int) (k : Int) {m : Int} (hm : 1 ≤ m) : 0 ≤ rWide bs k m ∧ rWide bs k m ≤ m - 1 := by
  unfold rWide
  have a := Int.emod_nonneg (256 * rAt bs k 256 + rAt bs (k + 1) 256) (show m ≠ 0 by omega)
  have b := Int.emod_lt_of_pos (256 * rAt bs k 256 + rAt bs (k + 1) 256) (show 0 < m by omega)
  omega
def byteR (b : Int) : Prop := 0 ≤ b ∧ b ≤ 255
set_option maxHeartbeats 1000000 in
theorem r8At_any (A : Option Addr) (c n B : Nat) (bs : List Int) (k m : Int) (w : World) (h : Rd w B 1 A n (bv bs)) (hb : ∀ b ∈ bs, byteR b) (hn : n ≤ 1048576) (k0 : 0 ≤ k) (k1 : k ≤ 1000000) (m1 : 2 ≤ m) (m2 : m ≤ 100000) :
    Calls Try.prog 12 #[.slice A n c, .int .i64 k, .int .i64 m] w fun e w' => e = .returned (.int .i64 (rAt bs k m)) ∧ w = w' := by
  have hl : bs.length = n := by have := h.1; rw [bv_len] at this; omega
  by_cases hk : (n : Int) ≤ k
  · rw [show rAt bs k m = 0 by rw [rAt, if_pos (by rw [hl]; exact hk)]]
    clear h hb
    go_enter Try.func12, Try.ntmps12
    go_wp2
    go_ret
    exact ⟨rfl, rfl⟩
  · obtain ⟨j, rfl⟩ : ∃ j : Nat, k = j := ⟨k.toNat, by omega⟩
    obtain ⟨b, o, rfl, _, hc⟩ := h.2 (by omega)
    obtain ⟨z, hz, hzm⟩ := getD_of (l := bs) (i := j) (by omega)
    have c0 : w.cell? ⟨b, o + j, none⟩ = some (.int .u8 z) := hc j _ (by simp [bv, hz])
    have zb := hb z hzm
    unfold byteR at zb
    rw [show rAt bs j m = z % m by rw [rAt, if_neg (by rw [hl]; exact hk)]; simp [List.getD, hz]]
    have hz0 : (m == 0) = false := by rw [Bool.eq_false_iff]; simp; omega
    have e1 := Int.emod_nonneg z (show m ≠ 0 by omega)
    have e2 := Int.emod_lt_of_pos z (show 0 < m by omega)
    clear h hb hc hz hzm hl
    go_enter Try.func12, Try.ntmps12
    go_wp2
    go_ret
    exact ⟨rfl, rfl⟩
set_option maxHeartbeats 1000000 in
theorem r8Wide_any (A : Option Addr) (c n B : Nat) (bs : List Int) (k m : Int) (w : World) (h : Rd w B 1 A n (bv bs)) (hb : ∀ b ∈ bs, byteR b) (hn : n ≤ 1048576) (k0 : 0 ≤ k) (k1 : k ≤ 100000) (m1 : 2 ≤ m) (m2 : m ≤ 100000) :
    Calls Try.prog 11 #[.slice A n c, .int .i64 k, .int .i64 m] w fun e w' => e = .returned (.int .i64 (rWide bs k m)) ∧ w = w' := by
  have H := Lib.hid h
  have HB := Lib.hid hb
  have a1 := rAt_bd bs k (m := 256) (by omega)
  have a2 := rAt_bd bs (k + 1) (m := 256) (by omega)
  have hz0 : (m == 0) = false := by rw [Bool.eq_false_iff]; simp; omega
  have e1 := Int.emod_nonneg (256 * rAt bs k 256 + rAt bs (k + 1) 256) (show m ≠ 0 by omega)
  have e2 := Int.emod_lt_of_pos (256 * rAt bs k 256 + rAt bs (k + 1) 256) (show 0 < m by omega)
  clear h hb
  unfold rWide
  go_enter Try.func11, Try.ntmps11
  go_wp2_with ((go_at_call 12; refine (r8At_any _ _ _ _ bs _ _ _ H.out HB.out hn (by omega) (by omega) (by omega) (by omega)).mono ?_; rintro e w' ⟨rfl, rfl⟩))
  go_ret
  exact ⟨rfl, rfl⟩
section
variable {H : Type} {enc : TypeId × Value → H} {w : World} {r : Reach} {b0 base : Nat} {spare : Nat → Bool} {held : Bool} {v : Value} {d : DataW H} {p : List MemPlace}
theorem byteR_of {a : Int} (h : (Lit.int .u8 a).wf = true) : byteR a := by
  unfold byteR
  have h1 : IntKind.u8.min = 0 := rfl
  have h2 : IntKind.u8.max = 255 := rfl
  simp [Lit.wf, h1, h2] at h
  omega
def IsU8S (w : World) (v : Value) : Prop := ∃ (A : Option Addr) (n c : Nat) (bs : List Int), v = .slice A n c ∧ n ≤ maxLen ∧ Rd w w.heap.size 1 A n (bv bs) ∧ ∀ b ∈ bs, byteR b
theorem flat_bv (ds : List Int) : ds.flatMap (fun z => [Value.int .u8 z]) = bv ds := by
  induction ds with
  | nil => rfl
  | cons a ds ih => rw [List.flatMap_cons, ih]; rfl
set_option maxRecDepth 100000 in
theorem open_IsU8S (hv : Value.okWide Try.prog w r b0 22 v) (h : DataW.Trod enc Try.prog w base spare held 22 v d p) : IsU8S w v := by
  obtain ⟨A, n, c, rfl⟩ := okWide_slice Try.underlying22 hv
  obtain ⟨fuel, hf⟩ := h
  obtain ⟨A', n', c', ds, hcs, hl, hm, hr, hg, _⟩ := open_rows (k := 1) (f := fun z : Int => [Value.int .u8 z]) (good := fun z : Int => byteR z) (by omega) (fun _ => rfl) Try.underlying22 (by kernel_rfl) hf (by
    intro fuel cs y hl hf
    obtain ⟨a, e, _, wa⟩ := DataW.trod_int Try.underlying5 hf
    exact ⟨a, e, byteR_of wa⟩)
  rw [flat_bv] at hr
  simp [Value.cells] at hcs
  obtain ⟨rfl, rfl, rfl⟩ := hcs
  exact ⟨_, _, _, ds, rfl, hm, hr, hg⟩
end
end Go.Proofs.Ytemkggecempmgaa
