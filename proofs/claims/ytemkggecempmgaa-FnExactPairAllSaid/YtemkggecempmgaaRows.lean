/-
  No cell of these rows narrows 'for every input' (looked for: loops, veiled, ifaces, maps, wideKeys, modest, calm, conditions, laid).
  DERIVED. THE GIVEN ROWS OF THIS SEAT. 5 by the template 'for every input the law returns true; each argument reads behind the call as it read before'; 0 by the template 'total and deterministic' (their statements: YtemkggecempmgaaTotals.lean).
  GIVEN WITH THE SEED: the statements are not yours to turn. If you find one false, say at which input.
  Laid BY PROGRAM, IN A SANDBOX (cutbox-rows.mjs): the forced cells as the released guide's own fill.sh prints them over the translation 5244ec846ed43826… (all of the seat's roots in one cut). By AI agents, Wed Nov 11 2026. No macro, syntax, notation, axiom, sorry.
-/
import Derived.Test.YtemkggecempmgaaChecked
import GoSem.Claim
import GoSem.ClaimJoined
import GoSem.ClaimMapViews
import Derived.JoinedTies
import Derived.KernelRfl
namespace Go.Proofs.Ytemkggecempmgaa
/- THE CELL 'sum', in the pinned program and in every row, IS THE sha256 OF THE DUMP (.gsa) THAT YtemkggecempmgaaProg.lean LOADS. Nothing in Lean hashes anything: it is a label: what it is worth is what the hold of that sum in a sandbox is worth. -/
noncomputable def Try.pinned : Pinned := { name := "ytemkggecempmgaa", sum := "5244ec846ed43826dbd1b4a870b9822c2652816ae7adc09e8bd370bda1afce7a", checked := Try.checked }
namespace Rows
def none {H : Type} : Left H := { results := [], args := [] }

/-- 'laws.FnSetUps': WHATEVER THE INPUT: true; the input reads as it did. -/
def fnSetUpsSpec : ChangeSpec := { name := "fnSetUps", fn := fun _ => fun
  | [d1, d2] => { results := [.lit (.bool true)], args := [d1, d2] }
  | _ => none }
def fnSetUpsRow : OpenClaim := { program := "ytemkggecempmgaa", sum := "5244ec846ed43826dbd1b4a870b9822c2652816ae7adc09e8bd370bda1afce7a", func := "loop.example/g01061/laws.FnSetUps", spec := "fnSetUps", recurses := true, apart := false }
def FnSetUpsSaid : Prop := fnSetUpsRow.holds Try.pinned (OpenSpec.ofChange fnSetUpsSpec)

/-- ITS FALSE NEIGHBOUR: 'it returns false'. Refute it at one input. -/
def fnSetUpsWrong : ChangeSpec := { name := "fnSetUps", fn := fun _ => fun
  | [d1, d2] => { results := [.lit (.bool false)], args := [d1, d2] }
  | _ => none }
def FnSetUpsWrongFalsely : Prop := fnSetUpsRow.holds Try.pinned (OpenSpec.ofChange fnSetUpsWrong)

/-- 'laws.FnExactCountSetUps': WHATEVER THE INPUT: true; the input reads as it did. -/
def fnExactCountSetUpsSpec : ChangeSpec := { name := "fnExactCountSetUps", fn := fun _ => fun
  | [d1, d2, d3, d4, d5] => { results := [.lit (.bool true)], args := [d1, d2, d3, d4, d5] }
  | _ => none }
def fnExactCountSetUpsRow : OpenClaim := { program := "ytemkggecempmgaa", sum := "5244ec846ed43826dbd1b4a870b9822c2652816ae7adc09e8bd370bda1afce7a", func := "loop.example/g01061/laws.FnExactCountSetUps", spec := "fnExactCountSetUps", recurses := true, apart := false }
def FnExactCountSetUpsSaid : Prop := fnExactCountSetUpsRow.holds Try.pinned (OpenSpec.ofChange fnExactCountSetUpsSpec)

/-- ITS FALSE NEIGHBOUR: 'it returns false'. Refute it at one input. -/
def fnExactCountSetUpsWrong : ChangeSpec := { name := "fnExactCountSetUps", fn := fun _ => fun
  | [d1, d2, d3, d4, d5] => { results := [.lit (.bool false)], args := [d1, d2, d3, d4, d5] }
  | _ => none }
def FnExactCountSetUpsWrongFalsely : Prop := fnExactCountSetUpsRow.holds Try.pinned (OpenSpec.ofChange fnExactCountSetUpsWrong)

/-- 'laws.FnExactSetUp': WHATEVER THE INPUT: true; the input reads as it did. -/
def fnExactSetUpSpec : ChangeSpec := { name := "fnExactSetUp", fn := fun _ => fun
  | [d1, d2, d3, d4, d5] => { results := [.lit (.bool true)], args := [d1, d2, d3, d4, d5] }
  | _ => none }
def fnExactSetUpRow : OpenClaim := { program := "ytemkggecempmgaa", sum := "5244ec846ed43826dbd1b4a870b9822c2652816ae7adc09e8bd370bda1afce7a", func := "loop.example/g01061/laws.FnExactSetUp", spec := "fnExactSetUp", recurses := true, apart := false }
def FnExactSetUpSaid : Prop := fnExactSetUpRow.holds Try.pinned (OpenSpec.ofChange fnExactSetUpSpec)

/-- ITS FALSE NEIGHBOUR: 'it returns false'. Refute it at one input. -/
def fnExactSetUpWrong : ChangeSpec := { name := "fnExactSetUp", fn := fun _ => fun
  | [d1, d2, d3, d4, d5] => { results := [.lit (.bool false)], args := [d1, d2, d3, d4, d5] }
  | _ => none }
def FnExactSetUpWrongFalsely : Prop := fnExactSetUpRow.holds Try.pinned (OpenSpec.ofChange fnExactSetUpWrong)

/-- 'laws.FnPairs': WHATEVER THE INPUT: true; the input reads as it did. -/
def fnPairsSpec : ChangeSpec := { name := "fnPairs", fn := fun _ => fun
  | [d1, d2] => { results := [.lit (.bool true)], args := [d1, d2] }
  | _ => none }
def fnPairsRow : OpenClaim := { program := "ytemkggecempmgaa", sum := "5244ec846ed43826dbd1b4a870b9822c2652816ae7adc09e8bd370bda1afce7a", func := "loop.example/g01061/laws.FnPairs", spec := "fnPairs", recurses := true, apart := false }
def FnPairsSaid : Prop := fnPairsRow.holds Try.pinned (OpenSpec.ofChange fnPairsSpec)

/-- ITS FALSE NEIGHBOUR: 'it returns false'. Refute it at one input. -/
def fnPairsWrong : ChangeSpec := { name := "fnPairs", fn := fun _ => fun
  | [d1, d2] => { results := [.lit (.bool false)], args := [d1, d2] }
  | _ => none }
def FnPairsWrongFalsely : Prop := fnPairsRow.holds Try.pinned (OpenSpec.ofChange fnPairsWrong)

/-- 'laws.FnExactPairAll': WHATEVER THE INPUT: true; the input reads as it did. -/
def fnExactPairAllSpec : ChangeSpec := { name := "fnExactPairAll", fn := fun _ => fun
  | [d1, d2] => { results := [.lit (.bool true)], args := [d1, d2] }
  | _ => none }
def fnExactPairAllRow : OpenClaim := { program := "ytemkggecempmgaa", sum := "5244ec846ed43826dbd1b4a870b9822c2652816ae7adc09e8bd370bda1afce7a", func := "loop.example/g01061/laws.FnExactPairAll", spec := "fnExactPairAll", recurses := true, apart := false }
def FnExactPairAllSaid : Prop := fnExactPairAllRow.holds Try.pinned (OpenSpec.ofChange fnExactPairAllSpec)

/-- ITS FALSE NEIGHBOUR: 'it returns false'. Refute it at one input. -/
def fnExactPairAllWrong : ChangeSpec := { name := "fnExactPairAll", fn := fun _ => fun
  | [d1, d2] => { results := [.lit (.bool false)], args := [d1, d2] }
  | _ => none }
def FnExactPairAllWrongFalsely : Prop := fnExactPairAllRow.holds Try.pinned (OpenSpec.ofChange fnExactPairAllWrong)

/- THE SECOND FORM. 'bulk': how many values and letters a reading holds, each counted each time it is reached (what is shared counts as often as it is met; a slice's spare places count too). A statement '..UptoSaid' is the law's where the arguments, and the package variables that the reading takes, are together of bulk at most 1048576: NARROWER than '..Said'. Prove '..Said' where nothing that the law and all that it calls make is longer than what came in: it says more and counts as full. Else prove '..UptoSaid'. A law counts once. -/
mutual
def uptoBulk {H : Type} : DataW H → Nat
  | .lit (.string bytes) => bytes.length + 1
  | .lit _ => 1
  | .nil => 1
  | .ptr d => uptoBulk d + 1
  | .slice elems spare => uptoBulkAll elems + uptoBulkAll spare + 1
  | .agg parts => uptoBulkAll parts + 1
  | .iface _ d => uptoBulk d + 1
  | .map entries => uptoBulkEntries entries + 1
  | .held _ => 1
def uptoBulkAll {H : Type} : List (DataW H) → Nat
  | [] => 0
  | d :: r => uptoBulk d + uptoBulkAll r
def uptoBulkEntries {H : Type} : List (Lit × DataW H) → Nat
  | [] => 0
  | x :: r => uptoBulkEntry x + uptoBulkEntries r
def uptoBulkEntry {H : Type} : Lit × DataW H → Nat
  | (.string bytes, d) => bytes.length + uptoBulk d + 1
  | (_, d) => uptoBulk d + 1
 end
def uptoSmall : (H : Type) → List (DataW H) → Bool := fun _ ds => decide (uptoBulkAll ds ≤ 1048576)
def OpenSpec.upto (s : _root_.Go.ChangeSpec) : _root_.Go.OpenSpec := { _root_.Go.OpenSpec.ofChange s with cond := some uptoSmall }

/-- 'laws.FnSetUps', WHERE WHAT IT READS IS OF BULK AT MOST 1048576: true; the input reads as it did. -/
def fnSetUpsUptoRow : OpenClaim := { program := "ytemkggecempmgaa", sum := "5244ec846ed43826dbd1b4a870b9822c2652816ae7adc09e8bd370bda1afce7a", func := "loop.example/g01061/laws.FnSetUps", spec := "fnSetUps", recurses := true, apart := false, narrowed := true }
def FnSetUpsUptoSaid : Prop := fnSetUpsUptoRow.holds Try.pinned (OpenSpec.upto fnSetUpsSpec)

/-- 'laws.FnExactCountSetUps', WHERE WHAT IT READS IS OF BULK AT MOST 1048576: true; the input reads as it did. -/
def fnExactCountSetUpsUptoRow : OpenClaim := { program := "ytemkggecempmgaa", sum := "5244ec846ed43826dbd1b4a870b9822c2652816ae7adc09e8bd370bda1afce7a", func := "loop.example/g01061/laws.FnExactCountSetUps", spec := "fnExactCountSetUps", recurses := true, apart := false, narrowed := true }
def FnExactCountSetUpsUptoSaid : Prop := fnExactCountSetUpsUptoRow.holds Try.pinned (OpenSpec.upto fnExactCountSetUpsSpec)

/-- 'laws.FnExactSetUp', WHERE WHAT IT READS IS OF BULK AT MOST 1048576: true; the input reads as it did. -/
def fnExactSetUpUptoRow : OpenClaim := { program := "ytemkggecempmgaa", sum := "5244ec846ed43826dbd1b4a870b9822c2652816ae7adc09e8bd370bda1afce7a", func := "loop.example/g01061/laws.FnExactSetUp", spec := "fnExactSetUp", recurses := true, apart := false, narrowed := true }
def FnExactSetUpUptoSaid : Prop := fnExactSetUpUptoRow.holds Try.pinned (OpenSpec.upto fnExactSetUpSpec)

/-- 'laws.FnPairs', WHERE WHAT IT READS IS OF BULK AT MOST 1048576: true; the input reads as it did. -/
def fnPairsUptoRow : OpenClaim := { program := "ytemkggecempmgaa", sum := "5244ec846ed43826dbd1b4a870b9822c2652816ae7adc09e8bd370bda1afce7a", func := "loop.example/g01061/laws.FnPairs", spec := "fnPairs", recurses := true, apart := false, narrowed := true }
def FnPairsUptoSaid : Prop := fnPairsUptoRow.holds Try.pinned (OpenSpec.upto fnPairsSpec)

/-- 'laws.FnExactPairAll', WHERE WHAT IT READS IS OF BULK AT MOST 1048576: true; the input reads as it did. -/
def fnExactPairAllUptoRow : OpenClaim := { program := "ytemkggecempmgaa", sum := "5244ec846ed43826dbd1b4a870b9822c2652816ae7adc09e8bd370bda1afce7a", func := "loop.example/g01061/laws.FnExactPairAll", spec := "fnExactPairAll", recurses := true, apart := false, narrowed := true }
def FnExactPairAllUptoSaid : Prop := fnExactPairAllUptoRow.holds Try.pinned (OpenSpec.upto fnExactPairAllSpec)

end Rows
end Go.Proofs.Ytemkggecempmgaa
