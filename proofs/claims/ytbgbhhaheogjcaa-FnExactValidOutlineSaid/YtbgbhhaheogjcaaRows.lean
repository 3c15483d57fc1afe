/-
  No cell of these rows narrows 'for every input' (looked for: loops, veiled, ifaces, maps, wideKeys, modest, calm, conditions, laid).
  DERIVED. THE GIVEN ROWS OF THIS SEAT. 12 by the template 'for every input the law returns true; each argument reads behind the call as it read before'; 0 by the template 'total and deterministic' (their statements: YtbgbhhaheogjcaaTotals.lean).
  GIVEN WITH THE SEED: the statements are not yours to turn. If you find one false, say at which input.
  Laid BY PROGRAM, IN A SANDBOX (cutbox-rows.mjs): the forced cells as the released guide's own fill.sh prints them over the translation eabaabfb5ab05e0e… (all of the seat's roots in one cut). By AI agents, Wed Nov 11 2026. No macro, syntax, notation, axiom, sorry.
-/
import Derived.Test.YtbgbhhaheogjcaaChecked
import GoSem.Claim
import GoSem.ClaimJoined
import GoSem.ClaimMapViews
import Derived.JoinedTies
import Derived.KernelRfl
namespace Go.Proofs.Ytbgbhhaheogjcaa
/- THE CELL 'sum', in the pinned program and in every row, IS THE sha256 OF THE DUMP (.gsa) THAT YtbgbhhaheogjcaaProg.lean LOADS. Nothing in Lean hashes anything: it is a label: what it is worth is what the hold of that sum in a sandbox is worth. -/
noncomputable def Try.pinned : Pinned := { name := "ytbgbhhaheogjcaa", sum := "eabaabfb5ab05e0eb869c5754b4b0a16637c16dee795e4909488bc31399c2056", checked := Try.checked }
namespace Rows
def none {H : Type} : Left H := { results := [], args := [] }

/-- 'laws.FnExactReamTo': WHATEVER THE INPUT: true; the input reads as it did. -/
def fnExactReamToSpec : ChangeSpec := { name := "fnExactReamTo", fn := fun _ => fun
  | [d1, d2, d3] => { results := [.lit (.bool true)], args := [d1, d2, d3] }
  | _ => none }
def fnExactReamToRow : OpenClaim := { program := "ytbgbhhaheogjcaa", sum := "eabaabfb5ab05e0eb869c5754b4b0a16637c16dee795e4909488bc31399c2056", func := "loop.example/g01061/laws.FnExactReamTo", spec := "fnExactReamTo", apart := false }
def FnExactReamToSaid : Prop := fnExactReamToRow.holds Try.pinned (OpenSpec.ofChange fnExactReamToSpec)

/-- ITS FALSE NEIGHBOUR: 'it returns false'. Refute it at one input. -/
def fnExactReamToWrong : ChangeSpec := { name := "fnExactReamTo", fn := fun _ => fun
  | [d1, d2, d3] => { results := [.lit (.bool false)], args := [d1, d2, d3] }
  | _ => none }
def FnExactReamToWrongFalsely : Prop := fnExactReamToRow.holds Try.pinned (OpenSpec.ofChange fnExactReamToWrong)

/-- 'laws.FnExactRingAfter': WHATEVER THE INPUT: true; the input reads as it did. -/
def fnExactRingAfterSpec : ChangeSpec := { name := "fnExactRingAfter", fn := fun _ => fun
  | [d1, d2, d3] => { results := [.lit (.bool true)], args := [d1, d2, d3] }
  | _ => none }
def fnExactRingAfterRow : OpenClaim := { program := "ytbgbhhaheogjcaa", sum := "eabaabfb5ab05e0eb869c5754b4b0a16637c16dee795e4909488bc31399c2056", func := "loop.example/g01061/laws.FnExactRingAfter", spec := "fnExactRingAfter", apart := false }
def FnExactRingAfterSaid : Prop := fnExactRingAfterRow.holds Try.pinned (OpenSpec.ofChange fnExactRingAfterSpec)

/-- ITS FALSE NEIGHBOUR: 'it returns false'. Refute it at one input. -/
def fnExactRingAfterWrong : ChangeSpec := { name := "fnExactRingAfter", fn := fun _ => fun
  | [d1, d2, d3] => { results := [.lit (.bool false)], args := [d1, d2, d3] }
  | _ => none }
def FnExactRingAfterWrongFalsely : Prop := fnExactRingAfterRow.holds Try.pinned (OpenSpec.ofChange fnExactRingAfterWrong)

/-- 'laws.FnExactCyclesTo': WHATEVER THE INPUT: true; the input reads as it did. -/
def fnExactCyclesToSpec : ChangeSpec := { name := "fnExactCyclesTo", fn := fun _ => fun
  | [d1, d2, d3] => { results := [.lit (.bool true)], args := [d1, d2, d3] }
  | _ => none }
def fnExactCyclesToRow : OpenClaim := { program := "ytbgbhhaheogjcaa", sum := "eabaabfb5ab05e0eb869c5754b4b0a16637c16dee795e4909488bc31399c2056", func := "loop.example/g01061/laws.FnExactCyclesTo", spec := "fnExactCyclesTo", apart := false }
def FnExactCyclesToSaid : Prop := fnExactCyclesToRow.holds Try.pinned (OpenSpec.ofChange fnExactCyclesToSpec)

/-- ITS FALSE NEIGHBOUR: 'it returns false'. Refute it at one input. -/
def fnExactCyclesToWrong : ChangeSpec := { name := "fnExactCyclesTo", fn := fun _ => fun
  | [d1, d2, d3] => { results := [.lit (.bool false)], args := [d1, d2, d3] }
  | _ => none }
def FnExactCyclesToWrongFalsely : Prop := fnExactCyclesToRow.holds Try.pinned (OpenSpec.ofChange fnExactCyclesToWrong)

/-- 'laws.FnExactStrengthOf': WHATEVER THE INPUT: true; the input reads as it did. -/
def fnExactStrengthOfSpec : ChangeSpec := { name := "fnExactStrengthOf", fn := fun _ => fun
  | [d] => { results := [.lit (.bool true)], args := [d] }
  | _ => none }
def fnExactStrengthOfRow : OpenClaim := { program := "ytbgbhhaheogjcaa", sum := "eabaabfb5ab05e0eb869c5754b4b0a16637c16dee795e4909488bc31399c2056", func := "loop.example/g01061/laws.FnExactStrengthOf", spec := "fnExactStrengthOf", apart := false }
def FnExactStrengthOfSaid : Prop := fnExactStrengthOfRow.holds Try.pinned (OpenSpec.ofChange fnExactStrengthOfSpec)

/-- ITS FALSE NEIGHBOUR: 'it returns false'. Refute it at one input. -/
def fnExactStrengthOfWrong : ChangeSpec := { name := "fnExactStrengthOf", fn := fun _ => fun
  | [d] => { results := [.lit (.bool false)], args := [d] }
  | _ => none }
def FnExactStrengthOfWrongFalsely : Prop := fnExactStrengthOfRow.holds Try.pinned (OpenSpec.ofChange fnExactStrengthOfWrong)

/-- 'laws.FnExactMixPots': WHATEVER THE INPUT: true; the input reads as it did. -/
def fnExactMixPotsSpec : ChangeSpec := { name := "fnExactMixPots", fn := fun _ => fun
  | [d1, d2, d3] => { results := [.lit (.bool true)], args := [d1, d2, d3] }
  | _ => none }
def fnExactMixPotsRow : OpenClaim := { program := "ytbgbhhaheogjcaa", sum := "eabaabfb5ab05e0eb869c5754b4b0a16637c16dee795e4909488bc31399c2056", func := "loop.example/g01061/laws.FnExactMixPots", spec := "fnExactMixPots", apart := false }
def FnExactMixPotsSaid : Prop := fnExactMixPotsRow.holds Try.pinned (OpenSpec.ofChange fnExactMixPotsSpec)

/-- ITS FALSE NEIGHBOUR: 'it returns false'. Refute it at one input. -/
def fnExactMixPotsWrong : ChangeSpec := { name := "fnExactMixPots", fn := fun _ => fun
  | [d1, d2, d3] => { results := [.lit (.bool false)], args := [d1, d2, d3] }
  | _ => none }
def FnExactMixPotsWrongFalsely : Prop := fnExactMixPotsRow.holds Try.pinned (OpenSpec.ofChange fnExactMixPotsWrong)

/-- 'laws.FnExactHoldsJoint': WHATEVER THE INPUT: true; the input reads as it did. -/
def fnExactHoldsJointSpec : ChangeSpec := { name := "fnExactHoldsJoint", fn := fun _ => fun
  | [d1, d2, d3] => { results := [.lit (.bool true)], args := [d1, d2, d3] }
  | _ => none }
def fnExactHoldsJointRow : OpenClaim := { program := "ytbgbhhaheogjcaa", sum := "eabaabfb5ab05e0eb869c5754b4b0a16637c16dee795e4909488bc31399c2056", func := "loop.example/g01061/laws.FnExactHoldsJoint", spec := "fnExactHoldsJoint", apart := false }
def FnExactHoldsJointSaid : Prop := fnExactHoldsJointRow.holds Try.pinned (OpenSpec.ofChange fnExactHoldsJointSpec)

/-- ITS FALSE NEIGHBOUR: 'it returns false'. Refute it at one input. -/
def fnExactHoldsJointWrong : ChangeSpec := { name := "fnExactHoldsJoint", fn := fun _ => fun
  | [d1, d2, d3] => { results := [.lit (.bool false)], args := [d1, d2, d3] }
  | _ => none }
def FnExactHoldsJointWrongFalsely : Prop := fnExactHoldsJointRow.holds Try.pinned (OpenSpec.ofChange fnExactHoldsJointWrong)

/-- 'laws.FnExactValidOutline': WHATEVER THE INPUT: true; the input reads as it did. -/
def fnExactValidOutlineSpec : ChangeSpec := { name := "fnExactValidOutline", fn := fun _ => fun
  | [d] => { results := [.lit (.bool true)], args := [d] }
  | _ => none }
def fnExactValidOutlineRow : OpenClaim := { program := "ytbgbhhaheogjcaa", sum := "eabaabfb5ab05e0eb869c5754b4b0a16637c16dee795e4909488bc31399c2056", func := "loop.example/g01061/laws.FnExactValidOutline", spec := "fnExactValidOutline", apart := false }
def FnExactValidOutlineSaid : Prop := fnExactValidOutlineRow.holds Try.pinned (OpenSpec.ofChange fnExactValidOutlineSpec)

/-- ITS FALSE NEIGHBOUR: 'it returns false'. Refute it at one input. -/
def fnExactValidOutlineWrong : ChangeSpec := { name := "fnExactValidOutline", fn := fun _ => fun
  | [d] => { results := [.lit (.bool false)], args := [d] }
  | _ => none }
def FnExactValidOutlineWrongFalsely : Prop := fnExactValidOutlineRow.holds Try.pinned (OpenSpec.ofChange fnExactValidOutlineWrong)

/-- 'laws.FnExactValidState': WHATEVER THE INPUT: true; the input reads as it did. -/
def fnExactValidStateSpec : ChangeSpec := { name := "fnExactValidState", fn := fun _ => fun
  | [d] => { results := [.lit (.bool true)], args := [d] }
  | _ => none }
def fnExactValidStateRow : OpenClaim := { program := "ytbgbhhaheogjcaa", sum := "eabaabfb5ab05e0eb869c5754b4b0a16637c16dee795e4909488bc31399c2056", func := "loop.example/g01061/laws.FnExactValidState", spec := "fnExactValidState", apart := false }
def FnExactValidStateSaid : Prop := fnExactValidStateRow.holds Try.pinned (OpenSpec.ofChange fnExactValidStateSpec)

/-- ITS FALSE NEIGHBOUR: 'it returns false'. Refute it at one input. -/
def fnExactValidStateWrong : ChangeSpec := { name := "fnExactValidState", fn := fun _ => fun
  | [d] => { results := [.lit (.bool false)], args := [d] }
  | _ => none }
def FnExactValidStateWrongFalsely : Prop := fnExactValidStateRow.holds Try.pinned (OpenSpec.ofChange fnExactValidStateWrong)

/-- 'laws.FnExactSameState': WHATEVER THE INPUT: true; the input reads as it did. -/
def fnExactSameStateSpec : ChangeSpec := { name := "fnExactSameState", fn := fun _ => fun
  | [d1, d2] => { results := [.lit (.bool true)], args := [d1, d2] }
  | _ => none }
def fnExactSameStateRow : OpenClaim := { program := "ytbgbhhaheogjcaa", sum := "eabaabfb5ab05e0eb869c5754b4b0a16637c16dee795e4909488bc31399c2056", func := "loop.example/g01061/laws.FnExactSameState", spec := "fnExactSameState", apart := false }
def FnExactSameStateSaid : Prop := fnExactSameStateRow.holds Try.pinned (OpenSpec.ofChange fnExactSameStateSpec)

/-- ITS FALSE NEIGHBOUR: 'it returns false'. Refute it at one input. -/
def fnExactSameStateWrong : ChangeSpec := { name := "fnExactSameState", fn := fun _ => fun
  | [d1, d2] => { results := [.lit (.bool false)], args := [d1, d2] }
  | _ => none }
def FnExactSameStateWrongFalsely : Prop := fnExactSameStateRow.holds Try.pinned (OpenSpec.ofChange fnExactSameStateWrong)

/-- 'laws.FnExactValidRibs': WHATEVER THE INPUT: true; the input reads as it did. -/
def fnExactValidRibsSpec : ChangeSpec := { name := "fnExactValidRibs", fn := fun _ => fun
  | [d] => { results := [.lit (.bool true)], args := [d] }
  | _ => none }
def fnExactValidRibsRow : OpenClaim := { program := "ytbgbhhaheogjcaa", sum := "eabaabfb5ab05e0eb869c5754b4b0a16637c16dee795e4909488bc31399c2056", func := "loop.example/g01061/laws.FnExactValidRibs", spec := "fnExactValidRibs", apart := false }
def FnExactValidRibsSaid : Prop := fnExactValidRibsRow.holds Try.pinned (OpenSpec.ofChange fnExactValidRibsSpec)

/-- ITS FALSE NEIGHBOUR: 'it returns false'. Refute it at one input. -/
def fnExactValidRibsWrong : ChangeSpec := { name := "fnExactValidRibs", fn := fun _ => fun
  | [d] => { results := [.lit (.bool false)], args := [d] }
  | _ => none }
def FnExactValidRibsWrongFalsely : Prop := fnExactValidRibsRow.holds Try.pinned (OpenSpec.ofChange fnExactValidRibsWrong)

/-- 'laws.FnExactValidBow': WHATEVER THE INPUT: true; the input reads as it did. -/
def fnExactValidBowSpec : ChangeSpec := { name := "fnExactValidBow", fn := fun _ => fun
  | [d] => { results := [.lit (.bool true)], args := [d] }
  | _ => none }
def fnExactValidBowRow : OpenClaim := { program := "ytbgbhhaheogjcaa", sum := "eabaabfb5ab05e0eb869c5754b4b0a16637c16dee795e4909488bc31399c2056", func := "loop.example/g01061/laws.FnExactValidBow", spec := "fnExactValidBow", apart := false }
def FnExactValidBowSaid : Prop := fnExactValidBowRow.holds Try.pinned (OpenSpec.ofChange fnExactValidBowSpec)

/-- ITS FALSE NEIGHBOUR: 'it returns false'. Refute it at one input. -/
def fnExactValidBowWrong : ChangeSpec := { name := "fnExactValidBow", fn := fun _ => fun
  | [d] => { results := [.lit (.bool false)], args := [d] }
  | _ => none }
def FnExactValidBowWrongFalsely : Prop := fnExactValidBowRow.holds Try.pinned (OpenSpec.ofChange fnExactValidBowWrong)

/-- 'laws.FnExactValidModes': WHATEVER THE INPUT: true; the input reads as it did. -/
def fnExactValidModesSpec : ChangeSpec := { name := "fnExactValidModes", fn := fun _ => fun
  | [d] => { results := [.lit (.bool true)], args := [d] }
  | _ => none }
def fnExactValidModesRow : OpenClaim := { program := "ytbgbhhaheogjcaa", sum := "eabaabfb5ab05e0eb869c5754b4b0a16637c16dee795e4909488bc31399c2056", func := "loop.example/g01061/laws.FnExactValidModes", spec := "fnExactValidModes", apart := false }
def FnExactValidModesSaid : Prop := fnExactValidModesRow.holds Try.pinned (OpenSpec.ofChange fnExactValidModesSpec)

/-- ITS FALSE NEIGHBOUR: 'it returns false'. Refute it at one input. -/
def fnExactValidModesWrong : ChangeSpec := { name := "fnExactValidModes", fn := fun _ => fun
  | [d] => { results := [.lit (.bool false)], args := [d] }
  | _ => none }
def FnExactValidModesWrongFalsely : Prop := fnExactValidModesRow.holds Try.pinned (OpenSpec.ofChange fnExactValidModesWrong)

/- THE SECOND FORM. 'bulk': how many values and letters a reading holds, each counted each time it is reached (what is shared counts as often as it is met; a slice's spare places count too). A statement '..UptoSaid' is the law's where the arguments, and the package variables that the reading takes, are together of bulk at most 1048576: NARROWER than '..Said'. Prove '..Said' where nothing that the law and all that it calls make is longer than what came in: it says more and counts as full. Else prove '..UptoSaid'. A law counts once. -/
mutual
def uptoBulk {H : Type} : DataW H → Nat
  | .lit (.string bytes) => bytes.length + 1
  | .lit _ => 1
  | .nil => 1
  | .ptr d => uptoBulk d + 1
  | .slice elems spare => uptoBulkAll elems + uptoBulkAll spare + 1
  | .agg parts => uptoBulkAll parts + 1
  | .iface _ d => uptoBulk d + 1
  | .map entries => uptoBulkEntries entries + 1
  | .held _ => 1
def uptoBulkAll {H : Type} : List (DataW H) → Nat
  | [] => 0
  | d :: r => uptoBulk d + uptoBulkAll r
def uptoBulkEntries {H : Type} : List (Lit × DataW H) → Nat
  | [] => 0
  | x :: r => uptoBulkEntry x + uptoBulkEntries r
def uptoBulkEntry {H : Type} : Lit × DataW H → Nat
  | (.string bytes, d) => bytes.length + uptoBulk d + 1
  | (_, d) => uptoBulk d + 1
 end
def uptoSmall : (H : Type) → List (DataW H) → Bool := fun _ ds => decide (uptoBulkAll ds ≤ 1048576)
def OpenSpec.upto (s : _root_.Go.ChangeSpec) : _root_.Go.OpenSpec := { _root_.Go.OpenSpec.ofChange s with cond := some uptoSmall }

/-- 'laws.FnExactReamTo', WHERE WHAT IT READS IS OF BULK AT MOST 1048576: true; the input reads as it did. -/
def fnExactReamToUptoRow : OpenClaim := { program := "ytbgbhhaheogjcaa", sum := "eabaabfb5ab05e0eb869c5754b4b0a16637c16dee795e4909488bc31399c2056", func := "loop.example/g01061/laws.FnExactReamTo", spec := "fnExactReamTo", apart := false, narrowed := true }
def FnExactReamToUptoSaid : Prop := fnExactReamToUptoRow.holds Try.pinned (OpenSpec.upto fnExactReamToSpec)

/-- 'laws.FnExactRingAfter', WHERE WHAT IT READS IS OF BULK AT MOST 1048576: true; the input reads as it did. -/
def fnExactRingAfterUptoRow : OpenClaim := { program := "ytbgbhhaheogjcaa", sum := "eabaabfb5ab05e0eb869c5754b4b0a16637c16dee795e4909488bc31399c2056", func := "loop.example/g01061/laws.FnExactRingAfter", spec := "fnExactRingAfter", apart := false, narrowed := true }
def FnExactRingAfterUptoSaid : Prop := fnExactRingAfterUptoRow.holds Try.pinned (OpenSpec.upto fnExactRingAfterSpec)

/-- 'laws.FnExactCyclesTo', WHERE WHAT IT READS IS OF BULK AT MOST 1048576: true; the input reads as it did. -/
def fnExactCyclesToUptoRow : OpenClaim := { program := "ytbgbhhaheogjcaa", sum := "eabaabfb5ab05e0eb869c5754b4b0a16637c16dee795e4909488bc31399c2056", func := "loop.example/g01061/laws.FnExactCyclesTo", spec := "fnExactCyclesTo", apart := false, narrowed := true }
def FnExactCyclesToUptoSaid : Prop := fnExactCyclesToUptoRow.holds Try.pinned (OpenSpec.upto fnExactCyclesToSpec)

/-- 'laws.FnExactStrengthOf', WHERE WHAT IT READS IS OF BULK AT MOST 1048576: true; the input reads as it did. -/
def fnExactStrengthOfUptoRow : OpenClaim := { program := "ytbgbhhaheogjcaa", sum := "eabaabfb5ab05e0eb869c5754b4b0a16637c16dee795e4909488bc31399c2056", func := "loop.example/g01061/laws.FnExactStrengthOf", spec := "fnExactStrengthOf", apart := false, narrowed := true }
def FnExactStrengthOfUptoSaid : Prop := fnExactStrengthOfUptoRow.holds Try.pinned (OpenSpec.upto fnExactStrengthOfSpec)

/-- 'laws.FnExactMixPots', WHERE WHAT IT READS IS OF BULK AT MOST 1048576: true; the input reads as it did. -/
def fnExactMixPotsUptoRow : OpenClaim := { program := "ytbgbhhaheogjcaa", sum := "eabaabfb5ab05e0eb869c5754b4b0a16637c16dee795e4909488bc31399c2056", func := "loop.example/g01061/laws.FnExactMixPots", spec := "fnExactMixPots", apart := false, narrowed := true }
def FnExactMixPotsUptoSaid : Prop := fnExactMixPotsUptoRow.holds Try.pinned (OpenSpec.upto fnExactMixPotsSpec)

/-- 'laws.FnExactHoldsJoint', WHERE WHAT IT READS IS OF BULK AT MOST 1048576: true; the input reads as it did. -/
def fnExactHoldsJointUptoRow : OpenClaim := { program := "ytbgbhhaheogjcaa", sum := "eabaabfb5ab05e0eb869c5754b4b0a16637c16dee795e4909488bc31399c2056", func := "loop.example/g01061/laws.FnExactHoldsJoint", spec := "fnExactHoldsJoint", apart := false, narrowed := true }
def FnExactHoldsJointUptoSaid : Prop := fnExactHoldsJointUptoRow.holds Try.pinned (OpenSpec.upto fnExactHoldsJointSpec)

/-- 'laws.FnExactValidOutline', WHERE WHAT IT READS IS OF BULK AT MOST 1048576: true; the input reads as it did. -/
def fnExactValidOutlineUptoRow : OpenClaim := { program := "ytbgbhhaheogjcaa", sum := "eabaabfb5ab05e0eb869c5754b4b0a16637c16dee795e4909488bc31399c2056", func := "loop.example/g01061/laws.FnExactValidOutline", spec := "fnExactValidOutline", apart := false, narrowed := true }
def FnExactValidOutlineUptoSaid : Prop := fnExactValidOutlineUptoRow.holds Try.pinned (OpenSpec.upto fnExactValidOutlineSpec)

/-- 'laws.FnExactValidState', WHERE WHAT IT READS IS OF BULK AT MOST 1048576: true; the input reads as it did. -/
def fnExactValidStateUptoRow : OpenClaim := { program := "ytbgbhhaheogjcaa", sum := "eabaabfb5ab05e0eb869c5754b4b0a16637c16dee795e4909488bc31399c2056", func := "loop.example/g01061/laws.FnExactValidState", spec := "fnExactValidState", apart := false, narrowed := true }
def FnExactValidStateUptoSaid : Prop := fnExactValidStateUptoRow.holds Try.pinned (OpenSpec.upto fnExactValidStateSpec)

/-- 'laws.FnExactSameState', WHERE WHAT IT READS IS OF BULK AT MOST 1048576: true; the input reads as it did. -/
def fnExactSameStateUptoRow : OpenClaim := { program := "ytbgbhhaheogjcaa", sum := "eabaabfb5ab05e0eb869c5754b4b0a16637c16dee795e4909488bc31399c2056", func := "loop.example/g01061/laws.FnExactSameState", spec := "fnExactSameState", apart := false, narrowed := true }
def FnExactSameStateUptoSaid : Prop := fnExactSameStateUptoRow.holds Try.pinned (OpenSpec.upto fnExactSameStateSpec)

/-- 'laws.FnExactValidRibs', WHERE WHAT IT READS IS OF BULK AT MOST 1048576: true; the input reads as it did. -/
def fnExactValidRibsUptoRow : OpenClaim := { program := "ytbgbhhaheogjcaa", sum := "eabaabfb5ab05e0eb869c5754b4b0a16637c16dee795e4909488bc31399c2056", func := "loop.example/g01061/laws.FnExactValidRibs", spec := "fnExactValidRibs", apart := false, narrowed := true }
def FnExactValidRibsUptoSaid : Prop := fnExactValidRibsUptoRow.holds Try.pinned (OpenSpec.upto fnExactValidRibsSpec)

/-- 'laws.FnExactValidBow', WHERE WHAT IT READS IS OF BULK AT MOST 1048576: true; the input reads as it did. -/
def fnExactValidBowUptoRow : OpenClaim := { program := "ytbgbhhaheogjcaa", sum := "eabaabfb5ab05e0eb869c5754b4b0a16637c16dee795e4909488bc31399c2056", func := "loop.example/g01061/laws.FnExactValidBow", spec := "fnExactValidBow", apart := false, narrowed := true }
def FnExactValidBowUptoSaid : Prop := fnExactValidBowUptoRow.holds Try.pinned (OpenSpec.upto fnExactValidBowSpec)

/-- 'laws.FnExactValidModes', WHERE WHAT IT READS IS OF BULK AT MOST 1048576: true; the input reads as it did. -/
def fnExactValidModesUptoRow : OpenClaim := { program := "ytbgbhhaheogjcaa", sum := "eabaabfb5ab05e0eb869c5754b4b0a16637c16dee795e4909488bc31399c2056", func := "loop.example/g01061/laws.FnExactValidModes", spec := "fnExactValidModes", apart := false, narrowed := true }
def FnExactValidModesUptoSaid : Prop := fnExactValidModesUptoRow.holds Try.pinned (OpenSpec.upto fnExactValidModesSpec)

end Rows
end Go.Proofs.Ytbgbhhaheogjcaa
