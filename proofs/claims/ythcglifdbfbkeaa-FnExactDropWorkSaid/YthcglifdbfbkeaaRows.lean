/-
  No cell of these rows narrows 'for every input' (looked for: loops, veiled, ifaces, maps, wideKeys, modest, calm, conditions, laid).
  DERIVED. THE GIVEN ROWS OF THIS SEAT. 8 by the template 'for every input the law returns true; each argument reads behind the call as it read before'; 0 by the template 'total and deterministic' (their statements: YthcglifdbfbkeaaTotals.lean).
  GIVEN WITH THE SEED: the statements are not yours to turn. If you find one false, say at which input.
  Laid BY PROGRAM, IN A SANDBOX (cutbox-rows.mjs): the forced cells as the released guide's own fill.sh prints them over the translation d84c49a6b49ade85… (all of the seat's roots in one cut). By AI agents, Wed Nov 11 2026. No macro, syntax, notation, axiom, sorry.
-/
import Derived.Test.YthcglifdbfbkeaaChecked
import GoSem.Claim
import GoSem.ClaimJoined
import GoSem.ClaimMapViews
import Derived.JoinedTies
import Derived.KernelRfl
namespace Go.Proofs.Ythcglifdbfbkeaa
/- THE CELL 'sum', in the pinned program and in every row, IS THE sha256 OF THE DUMP (.gsa) THAT YthcglifdbfbkeaaProg.lean LOADS. Nothing in Lean hashes anything: it is a label: what it is worth is what the hold of that sum in a sandbox is worth. -/
noncomputable def Try.pinned : Pinned := { name := "ythcglifdbfbkeaa", sum := "d84c49a6b49ade85677d4c76d2a04ea227f41a976ebb69c088e8e632e3bdd4b8", checked := Try.checked }
namespace Rows
def none {H : Type} : Left H := { results := [], args := [] }

/-- 'laws.FnExactValidPlan': WHATEVER THE INPUT: true; the input reads as it did. -/
def fnExactValidPlanSpec : ChangeSpec := { name := "fnExactValidPlan", fn := fun _ => fun
  | [d] => { results := [.lit (.bool true)], args := [d] }
  | _ => none }
def fnExactValidPlanRow : OpenClaim := { program := "ythcglifdbfbkeaa", sum := "d84c49a6b49ade85677d4c76d2a04ea227f41a976ebb69c088e8e632e3bdd4b8", func := "loop.example/g01061/laws.FnExactValidPlan", spec := "fnExactValidPlan", apart := false }
def FnExactValidPlanSaid : Prop := fnExactValidPlanRow.holds Try.pinned (OpenSpec.ofChange fnExactValidPlanSpec)

/-- ITS FALSE NEIGHBOUR: 'it returns false'. Refute it at one input. -/
def fnExactValidPlanWrong : ChangeSpec := { name := "fnExactValidPlan", fn := fun _ => fun
  | [d] => { results := [.lit (.bool false)], args := [d] }
  | _ => none }
def FnExactValidPlanWrongFalsely : Prop := fnExactValidPlanRow.holds Try.pinned (OpenSpec.ofChange fnExactValidPlanWrong)

/-- 'laws.FnExactLoadOf': WHATEVER THE INPUT: true; the input reads as it did. -/
def fnExactLoadOfSpec : ChangeSpec := { name := "fnExactLoadOf", fn := fun _ => fun
  | [d] => { results := [.lit (.bool true)], args := [d] }
  | _ => none }
def fnExactLoadOfRow : OpenClaim := { program := "ythcglifdbfbkeaa", sum := "d84c49a6b49ade85677d4c76d2a04ea227f41a976ebb69c088e8e632e3bdd4b8", func := "loop.example/g01061/laws.FnExactLoadOf", spec := "fnExactLoadOf", apart := false }
def FnExactLoadOfSaid : Prop := fnExactLoadOfRow.holds Try.pinned (OpenSpec.ofChange fnExactLoadOfSpec)

/-- ITS FALSE NEIGHBOUR: 'it returns false'. Refute it at one input. -/
def fnExactLoadOfWrong : ChangeSpec := { name := "fnExactLoadOf", fn := fun _ => fun
  | [d] => { results := [.lit (.bool false)], args := [d] }
  | _ => none }
def FnExactLoadOfWrongFalsely : Prop := fnExactLoadOfRow.holds Try.pinned (OpenSpec.ofChange fnExactLoadOfWrong)

/-- 'laws.FnExactFreeDays': WHATEVER THE INPUT: true; the input reads as it did. -/
def fnExactFreeDaysSpec : ChangeSpec := { name := "fnExactFreeDays", fn := fun _ => fun
  | [d1, d2] => { results := [.lit (.bool true)], args := [d1, d2] }
  | _ => none }
def fnExactFreeDaysRow : OpenClaim := { program := "ythcglifdbfbkeaa", sum := "d84c49a6b49ade85677d4c76d2a04ea227f41a976ebb69c088e8e632e3bdd4b8", func := "loop.example/g01061/laws.FnExactFreeDays", spec := "fnExactFreeDays", apart := false }
def FnExactFreeDaysSaid : Prop := fnExactFreeDaysRow.holds Try.pinned (OpenSpec.ofChange fnExactFreeDaysSpec)

/-- ITS FALSE NEIGHBOUR: 'it returns false'. Refute it at one input. -/
def fnExactFreeDaysWrong : ChangeSpec := { name := "fnExactFreeDays", fn := fun _ => fun
  | [d1, d2] => { results := [.lit (.bool false)], args := [d1, d2] }
  | _ => none }
def FnExactFreeDaysWrongFalsely : Prop := fnExactFreeDaysRow.holds Try.pinned (OpenSpec.ofChange fnExactFreeDaysWrong)

/-- 'laws.FnExactFirstFree': WHATEVER THE INPUT: true; the input reads as it did. -/
def fnExactFirstFreeSpec : ChangeSpec := { name := "fnExactFirstFree", fn := fun _ => fun
  | [d1, d2, d3] => { results := [.lit (.bool true)], args := [d1, d2, d3] }
  | _ => none }
def fnExactFirstFreeRow : OpenClaim := { program := "ythcglifdbfbkeaa", sum := "d84c49a6b49ade85677d4c76d2a04ea227f41a976ebb69c088e8e632e3bdd4b8", func := "loop.example/g01061/laws.FnExactFirstFree", spec := "fnExactFirstFree", apart := false }
def FnExactFirstFreeSaid : Prop := fnExactFirstFreeRow.holds Try.pinned (OpenSpec.ofChange fnExactFirstFreeSpec)

/-- ITS FALSE NEIGHBOUR: 'it returns false'. Refute it at one input. -/
def fnExactFirstFreeWrong : ChangeSpec := { name := "fnExactFirstFree", fn := fun _ => fun
  | [d1, d2, d3] => { results := [.lit (.bool false)], args := [d1, d2, d3] }
  | _ => none }
def FnExactFirstFreeWrongFalsely : Prop := fnExactFirstFreeRow.holds Try.pinned (OpenSpec.ofChange fnExactFirstFreeWrong)

/-- 'laws.FnExactPartsOf': WHATEVER THE INPUT: true; the input reads as it did. -/
def fnExactPartsOfSpec : ChangeSpec := { name := "fnExactPartsOf", fn := fun _ => fun
  | [d1, d2] => { results := [.lit (.bool true)], args := [d1, d2] }
  | _ => none }
def fnExactPartsOfRow : OpenClaim := { program := "ythcglifdbfbkeaa", sum := "d84c49a6b49ade85677d4c76d2a04ea227f41a976ebb69c088e8e632e3bdd4b8", func := "loop.example/g01061/laws.FnExactPartsOf", spec := "fnExactPartsOf", apart := false }
def FnExactPartsOfSaid : Prop := fnExactPartsOfRow.holds Try.pinned (OpenSpec.ofChange fnExactPartsOfSpec)

/-- ITS FALSE NEIGHBOUR: 'it returns false'. Refute it at one input. -/
def fnExactPartsOfWrong : ChangeSpec := { name := "fnExactPartsOf", fn := fun _ => fun
  | [d1, d2] => { results := [.lit (.bool false)], args := [d1, d2] }
  | _ => none }
def FnExactPartsOfWrongFalsely : Prop := fnExactPartsOfRow.holds Try.pinned (OpenSpec.ofChange fnExactPartsOfWrong)

/-- 'laws.FnExactBookDays': WHATEVER THE INPUT: true; the input reads as it did. -/
def fnExactBookDaysSpec : ChangeSpec := { name := "fnExactBookDays", fn := fun _ => fun
  | [d1, d2, d3, d4, d5] => { results := [.lit (.bool true)], args := [d1, d2, d3, d4, d5] }
  | _ => none }
def fnExactBookDaysRow : OpenClaim := { program := "ythcglifdbfbkeaa", sum := "d84c49a6b49ade85677d4c76d2a04ea227f41a976ebb69c088e8e632e3bdd4b8", func := "loop.example/g01061/laws.FnExactBookDays", spec := "fnExactBookDays", apart := false }
def FnExactBookDaysSaid : Prop := fnExactBookDaysRow.holds Try.pinned (OpenSpec.ofChange fnExactBookDaysSpec)

/-- ITS FALSE NEIGHBOUR: 'it returns false'. Refute it at one input. -/
def fnExactBookDaysWrong : ChangeSpec := { name := "fnExactBookDays", fn := fun _ => fun
  | [d1, d2, d3, d4, d5] => { results := [.lit (.bool false)], args := [d1, d2, d3, d4, d5] }
  | _ => none }
def FnExactBookDaysWrongFalsely : Prop := fnExactBookDaysRow.holds Try.pinned (OpenSpec.ofChange fnExactBookDaysWrong)

/-- 'laws.FnExactDropWork': WHATEVER THE INPUT: true; the input reads as it did. -/
def fnExactDropWorkSpec : ChangeSpec := { name := "fnExactDropWork", fn := fun _ => fun
  | [d1, d2] => { results := [.lit (.bool true)], args := [d1, d2] }
  | _ => none }
def fnExactDropWorkRow : OpenClaim := { program := "ythcglifdbfbkeaa", sum := "d84c49a6b49ade85677d4c76d2a04ea227f41a976ebb69c088e8e632e3bdd4b8", func := "loop.example/g01061/laws.FnExactDropWork", spec := "fnExactDropWork", apart := false }
def FnExactDropWorkSaid : Prop := fnExactDropWorkRow.holds Try.pinned (OpenSpec.ofChange fnExactDropWorkSpec)

/-- ITS FALSE NEIGHBOUR: 'it returns false'. Refute it at one input. -/
def fnExactDropWorkWrong : ChangeSpec := { name := "fnExactDropWork", fn := fun _ => fun
  | [d1, d2] => { results := [.lit (.bool false)], args := [d1, d2] }
  | _ => none }
def FnExactDropWorkWrongFalsely : Prop := fnExactDropWorkRow.holds Try.pinned (OpenSpec.ofChange fnExactDropWorkWrong)

/-- 'laws.FnBenches': WHATEVER THE INPUT: true; the input reads as it did. -/
def fnBenchesSpec : ChangeSpec := { name := "fnBenches", fn := fun _ => fun
  | [d1, d2] => { results := [.lit (.bool true)], args := [d1, d2] }
  | _ => none }
def fnBenchesRow : OpenClaim := { program := "ythcglifdbfbkeaa", sum := "d84c49a6b49ade85677d4c76d2a04ea227f41a976ebb69c088e8e632e3bdd4b8", func := "loop.example/g01061/laws.FnBenches", spec := "fnBenches", apart := false }
def FnBenchesSaid : Prop := fnBenchesRow.holds Try.pinned (OpenSpec.ofChange fnBenchesSpec)

/-- ITS FALSE NEIGHBOUR: 'it returns false'. Refute it at one input. -/
def fnBenchesWrong : ChangeSpec := { name := "fnBenches", fn := fun _ => fun
  | [d1, d2] => { results := [.lit (.bool false)], args := [d1, d2] }
  | _ => none }
def FnBenchesWrongFalsely : Prop := fnBenchesRow.holds Try.pinned (OpenSpec.ofChange fnBenchesWrong)

/- THE SECOND FORM. 'bulk': how many values and letters a reading holds, each counted each time it is reached (what is shared counts as often as it is met; a slice's spare places count too). A statement '..UptoSaid' is the law's where the arguments, and the package variables that the reading takes, are together of bulk at most 1048576: NARROWER than '..Said'. Prove '..Said' where nothing that the law and all that it calls make is longer than what came in: it says more and counts as full. Else prove '..UptoSaid'. A law counts once. -/
mutual
def uptoBulk {H : Type} : DataW H → Nat
  | .lit (.string bytes) => bytes.length + 1
  | .lit _ => 1
  | .nil => 1
  | .ptr d => uptoBulk d + 1
  | .slice elems spare => uptoBulkAll elems + uptoBulkAll spare + 1
  | .agg parts => uptoBulkAll parts + 1
  | .iface _ d => uptoBulk d + 1
  | .map entries => uptoBulkEntries entries + 1
  | .held _ => 1
def uptoBulkAll {H : Type} : List (DataW H) → Nat
  | [] => 0
  | d :: r => uptoBulk d + uptoBulkAll r
def uptoBulkEntries {H : Type} : List (Lit × DataW H) → Nat
  | [] => 0
  | x :: r => uptoBulkEntry x + uptoBulkEntries r
def uptoBulkEntry {H : Type} : Lit × DataW H → Nat
  | (.string bytes, d) => bytes.length + uptoBulk d + 1
  | (_, d) => uptoBulk d + 1
 end
def uptoSmall : (H : Type) → List (DataW H) → Bool := fun _ ds => decide (uptoBulkAll ds ≤ 1048576)
def OpenSpec.upto (s : _root_.Go.ChangeSpec) : _root_.Go.OpenSpec := { _root_.Go.OpenSpec.ofChange s with cond := some uptoSmall }

/-- 'laws.FnExactValidPlan', WHERE WHAT IT READS IS OF BULK AT MOST 1048576: true; the input reads as it did. -/
def fnExactValidPlanUptoRow : OpenClaim := { program := "ythcglifdbfbkeaa", sum := "d84c49a6b49ade85677d4c76d2a04ea227f41a976ebb69c088e8e632e3bdd4b8", func := "loop.example/g01061/laws.FnExactValidPlan", spec := "fnExactValidPlan", apart := false, narrowed := true }
def FnExactValidPlanUptoSaid : Prop := fnExactValidPlanUptoRow.holds Try.pinned (OpenSpec.upto fnExactValidPlanSpec)

/-- 'laws.FnExactLoadOf', WHERE WHAT IT READS IS OF BULK AT MOST 1048576: true; the input reads as it did. -/
def fnExactLoadOfUptoRow : OpenClaim := { program := "ythcglifdbfbkeaa", sum := "d84c49a6b49ade85677d4c76d2a04ea227f41a976ebb69c088e8e632e3bdd4b8", func := "loop.example/g01061/laws.FnExactLoadOf", spec := "fnExactLoadOf", apart := false, narrowed := true }
def FnExactLoadOfUptoSaid : Prop := fnExactLoadOfUptoRow.holds Try.pinned (OpenSpec.upto fnExactLoadOfSpec)

/-- 'laws.FnExactFreeDays', WHERE WHAT IT READS IS OF BULK AT MOST 1048576: true; the input reads as it did. -/
def fnExactFreeDaysUptoRow : OpenClaim := { program := "ythcglifdbfbkeaa", sum := "d84c49a6b49ade85677d4c76d2a04ea227f41a976ebb69c088e8e632e3bdd4b8", func := "loop.example/g01061/laws.FnExactFreeDays", spec := "fnExactFreeDays", apart := false, narrowed := true }
def FnExactFreeDaysUptoSaid : Prop := fnExactFreeDaysUptoRow.holds Try.pinned (OpenSpec.upto fnExactFreeDaysSpec)

/-- 'laws.FnExactFirstFree', WHERE WHAT IT READS IS OF BULK AT MOST 1048576: true; the input reads as it did. -/
def fnExactFirstFreeUptoRow : OpenClaim := { program := "ythcglifdbfbkeaa", sum := "d84c49a6b49ade85677d4c76d2a04ea227f41a976ebb69c088e8e632e3bdd4b8", func := "loop.example/g01061/laws.FnExactFirstFree", spec := "fnExactFirstFree", apart := false, narrowed := true }
def FnExactFirstFreeUptoSaid : Prop := fnExactFirstFreeUptoRow.holds Try.pinned (OpenSpec.upto fnExactFirstFreeSpec)

/-- 'laws.FnExactPartsOf', WHERE WHAT IT READS IS OF BULK AT MOST 1048576: true; the input reads as it did. -/
def fnExactPartsOfUptoRow : OpenClaim := { program := "ythcglifdbfbkeaa", sum := "d84c49a6b49ade85677d4c76d2a04ea227f41a976ebb69c088e8e632e3bdd4b8", func := "loop.example/g01061/laws.FnExactPartsOf", spec := "fnExactPartsOf", apart := false, narrowed := true }
def FnExactPartsOfUptoSaid : Prop := fnExactPartsOfUptoRow.holds Try.pinned (OpenSpec.upto fnExactPartsOfSpec)

/-- 'laws.FnExactBookDays', WHERE WHAT IT READS IS OF BULK AT MOST 1048576: true; the input reads as it did. -/
def fnExactBookDaysUptoRow : OpenClaim := { program := "ythcglifdbfbkeaa", sum := "d84c49a6b49ade85677d4c76d2a04ea227f41a976ebb69c088e8e632e3bdd4b8", func := "loop.example/g01061/laws.FnExactBookDays", spec := "fnExactBookDays", apart := false, narrowed := true }
def FnExactBookDaysUptoSaid : Prop := fnExactBookDaysUptoRow.holds Try.pinned (OpenSpec.upto fnExactBookDaysSpec)

/-- 'laws.FnExactDropWork', WHERE WHAT IT READS IS OF BULK AT MOST 1048576: true; the input reads as it did. -/
def fnExactDropWorkUptoRow : OpenClaim := { program := "ythcglifdbfbkeaa", sum := "d84c49a6b49ade85677d4c76d2a04ea227f41a976ebb69c088e8e632e3bdd4b8", func := "loop.example/g01061/laws.FnExactDropWork", spec := "fnExactDropWork", apart := false, narrowed := true }
def FnExactDropWorkUptoSaid : Prop := fnExactDropWorkUptoRow.holds Try.pinned (OpenSpec.upto fnExactDropWorkSpec)

/-- 'laws.FnBenches', WHERE WHAT IT READS IS OF BULK AT MOST 1048576: true; the input reads as it did. -/
def fnBenchesUptoRow : OpenClaim := { program := "ythcglifdbfbkeaa", sum := "d84c49a6b49ade85677d4c76d2a04ea227f41a976ebb69c088e8e632e3bdd4b8", func := "loop.example/g01061/laws.FnBenches", spec := "fnBenches", apart := false, narrowed := true }
def FnBenchesUptoSaid : Prop := fnBenchesUptoRow.holds Try.pinned (OpenSpec.upto fnBenchesSpec)

end Rows
end Go.Proofs.Ythcglifdbfbkeaa
