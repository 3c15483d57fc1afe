/- Bytes that choices are drawn from (r8At, r8Wide). -/
import Derived.Test.YtoodlpgamlelaaaRd
import Derived.Test.YtoodlpgamlelaaaBase
import Derived.Test.YtoodlpgamlelaaaOpenS
set_option linter.unusedVariables false
namespace Go.Proofs.Ytoodlpgamlelaaa
open Go.ChangeShapes Go.WideShapes Go.ChangeAt Go.RowKit

def bv (bs : List Int) : List Value := bs.map (Value.int .u8)
theorem bv_len (bs : List Int) : (bv bs).length = bs.length := by simp [bv]
def rAt (bs : List Int) (k m : Int) : Int := if (bs.length : Int) ≤ k then 0 else bs.getD k.toNat 0 % m
theorem rAt_bd (bs : List Int) (k : Int) {m : Int} (hm : 1 ≤ m) : 0 ≤ rAt bs k m ∧ rAt bs k m ≤ m - 1 := by
  unfold rAt
  split
  · omega
  · have a := Int.emod_nonneg (bs.getD k.toNat 0) (show m ≠ 0 by omega)
    have b := Int.emod_lt_of_pos (bs.getD k.toNat 0) (show 0 < m by omega)
    omega
def rWide (bs : List Int) (k m : Int) : Int := (256 * rAt bs k 256 + rAt bs (k + 1) 256) % m
theorem rWide_bd (bs : List Int) (k : Int) {m : Int} (hm : 1 ≤ m) : 0 ≤ rWide bs k m ∧ rWide bs k m ≤ m - 1 := by
  unfold rWide
  have a := Int.emod_nonneg (256 * rAt bs k 256 + rAt bs (k + 1) 256) (show m ≠ 0 by omega)
  have b := Int.emod_lt_of_pos (256 * rAt bs k 256 + rAt bs (k + 1) 256) (show 0 < m by omega)
  omega
def byteR (b : Int) : Prop := 0 ≤ b ∧ b ≤ 255
section
variable {H : Type} {enc : TypeId × Value → H} {w : World} {r : Reach} {b0 base : Nat} {spare : Nat → Bool} {held : Bool} {v : Value} {d : DataW H} {p : List MemPlace}
theorem byteR_of {a : Int} (h : (Lit.int .u8 a).wf = true) : byteR a := by
  unfold byteR
  have h1 : IntKind.u8.min = 0 := rfl
  have h2 : IntKind.u8.max = 255 := rfl
  simp [Lit.wf, h1, h2] at h
  omega
def IsU8S (w : World) (v : Value) : Prop := ∃ (A : Option Addr) (n c : Nat) (bs : List Int), v = .slice A n c ∧ n ≤ maxLen ∧ Rd w w.heap.size 1 A n (bv bs) ∧ ∀ b ∈ bs, byteR b
theorem flat_bv (ds : List Int) : ds.flatMap (fun z => [Value.int .u8 z]) = bv ds := by
  induction ds with
  | nil => rfl
  | cons a ds ih => rw [List.flatMap_cons, ih]; rfl
set_option maxRecDepth 100000 in
theorem open_IsU8S (hv : Value.okWide Try.prog w r b0 22 v) (h : DataW.Trod enc Try.prog w base spare held 22 v d p) : IsU8S w v := by
  obtain ⟨A, n, c, rfl⟩ := okWide_slice Try.underlying22 hv
  obtain ⟨fuel, hf⟩ := h
  obtain ⟨A', n', c', ds, hcs, hl, hm, hr, hg, _⟩ := open_rows (k := 1) (f := fun z : Int => [Value.int .u8 z]) (good := fun z : Int => byteR z) (by omega) (fun _ => rfl) Try.underlying22 (by kernel_rfl) hf (by
    intro fuel cs y hl hf
    obtain ⟨a, e, _, wa⟩ := DataW.trod_int Try.underlying5 hf
    exact ⟨a, e, byteR_of wa⟩)
  rw [flat_bv] at hr
  simp [Value.cells] at hcs
  obtain ⟨rfl, rfl, rfl⟩ := hcs
  exact ⟨_, _, _, ds, rfl, hm, hr, hg⟩
end
end Go.Proofs.Ytoodlpgamlelaaa
