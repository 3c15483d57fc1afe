/-
  No cell of these rows narrows 'for every input' (looked for: loops, veiled, ifaces, maps, wideKeys, modest, calm, conditions, laid).
  DERIVED. THE GIVEN ROWS OF THIS SEAT. 12 by the template 'for every input the law returns true; each argument reads behind the call as it read before'; 0 by the template 'total and deterministic' (their statements: YtgbpkblhokjbbaaTotals.lean).
  GIVEN WITH THE SEED: the statements are not yours to turn. If you find one false, say at which input.
  Laid BY PROGRAM, IN A SANDBOX (cutbox-rows.mjs): the forced cells as the released guide's own fill.sh prints them over the translation d1c27bd35deb161f… (all of the seat's roots in one cut). By AI agents, Wed Nov 11 2026. No macro, syntax, notation, axiom, sorry.
-/
import Derived.Test.YtgbpkblhokjbbaaChecked
import GoSem.Claim
import GoSem.ClaimJoined
import GoSem.ClaimMapViews
import Derived.JoinedTies
import Derived.KernelRfl
namespace Go.Proofs.Ytgbpkblhokjbbaa
/- THE CELL 'sum', in the pinned program and in every row, IS THE sha256 OF THE DUMP (.gsa) THAT YtgbpkblhokjbbaaProg.lean LOADS. Nothing in Lean hashes anything: it is a label: what it is worth is what the hold of that sum in a sandbox is worth. -/
noncomputable def Try.pinned : Pinned := { name := "ytgbpkblhokjbbaa", sum := "d1c27bd35deb161fda47ddf53e71e2982b90356e7a6b3574b7b53d941c7d19e1", checked := Try.checked }
namespace Rows
def none {H : Type} : Left H := { results := [], args := [] }

/-- 'laws.FnExactBeatsOther': WHATEVER THE INPUT: true; the input reads as it did. -/
def fnExactBeatsOtherSpec : ChangeSpec := { name := "fnExactBeatsOther", fn := fun _ => fun
  | [d1, d2] => { results := [.lit (.bool true)], args := [d1, d2] }
  | _ => none }
def fnExactBeatsOtherRow : OpenClaim := { program := "ytgbpkblhokjbbaa", sum := "d1c27bd35deb161fda47ddf53e71e2982b90356e7a6b3574b7b53d941c7d19e1", func := "loop.example/g01061/laws.FnExactBeatsOther", spec := "fnExactBeatsOther", apart := false }
def FnExactBeatsOtherSaid : Prop := fnExactBeatsOtherRow.holds Try.pinned (OpenSpec.ofChange fnExactBeatsOtherSpec)

/-- ITS FALSE NEIGHBOUR: 'it returns false'. Refute it at one input. -/
def fnExactBeatsOtherWrong : ChangeSpec := { name := "fnExactBeatsOther", fn := fun _ => fun
  | [d1, d2] => { results := [.lit (.bool false)], args := [d1, d2] }
  | _ => none }
def FnExactBeatsOtherWrongFalsely : Prop := fnExactBeatsOtherRow.holds Try.pinned (OpenSpec.ofChange fnExactBeatsOtherWrong)

/-- 'laws.FnExactCostOf': WHATEVER THE INPUT: true; the input reads as it did. -/
def fnExactCostOfSpec : ChangeSpec := { name := "fnExactCostOf", fn := fun _ => fun
  | [d] => { results := [.lit (.bool true)], args := [d] }
  | _ => none }
def fnExactCostOfRow : OpenClaim := { program := "ytgbpkblhokjbbaa", sum := "d1c27bd35deb161fda47ddf53e71e2982b90356e7a6b3574b7b53d941c7d19e1", func := "loop.example/g01061/laws.FnExactCostOf", spec := "fnExactCostOf", apart := false }
def FnExactCostOfSaid : Prop := fnExactCostOfRow.holds Try.pinned (OpenSpec.ofChange fnExactCostOfSpec)

/-- ITS FALSE NEIGHBOUR: 'it returns false'. Refute it at one input. -/
def fnExactCostOfWrong : ChangeSpec := { name := "fnExactCostOf", fn := fun _ => fun
  | [d] => { results := [.lit (.bool false)], args := [d] }
  | _ => none }
def FnExactCostOfWrongFalsely : Prop := fnExactCostOfRow.holds Try.pinned (OpenSpec.ofChange fnExactCostOfWrong)

/-- 'laws.FnExactPriceOf': WHATEVER THE INPUT: true; the input reads as it did. -/
def fnExactPriceOfSpec : ChangeSpec := { name := "fnExactPriceOf", fn := fun _ => fun
  | [d] => { results := [.lit (.bool true)], args := [d] }
  | _ => none }
def fnExactPriceOfRow : OpenClaim := { program := "ytgbpkblhokjbbaa", sum := "d1c27bd35deb161fda47ddf53e71e2982b90356e7a6b3574b7b53d941c7d19e1", func := "loop.example/g01061/laws.FnExactPriceOf", spec := "fnExactPriceOf", apart := false }
def FnExactPriceOfSaid : Prop := fnExactPriceOfRow.holds Try.pinned (OpenSpec.ofChange fnExactPriceOfSpec)

/-- ITS FALSE NEIGHBOUR: 'it returns false'. Refute it at one input. -/
def fnExactPriceOfWrong : ChangeSpec := { name := "fnExactPriceOf", fn := fun _ => fun
  | [d] => { results := [.lit (.bool false)], args := [d] }
  | _ => none }
def FnExactPriceOfWrongFalsely : Prop := fnExactPriceOfRow.holds Try.pinned (OpenSpec.ofChange fnExactPriceOfWrong)

/-- 'laws.FnExactPegAt': WHATEVER THE INPUT: true; the input reads as it did. -/
def fnExactPegAtSpec : ChangeSpec := { name := "fnExactPegAt", fn := fun _ => fun
  | [d1, d2] => { results := [.lit (.bool true)], args := [d1, d2] }
  | _ => none }
def fnExactPegAtRow : OpenClaim := { program := "ytgbpkblhokjbbaa", sum := "d1c27bd35deb161fda47ddf53e71e2982b90356e7a6b3574b7b53d941c7d19e1", func := "loop.example/g01061/laws.FnExactPegAt", spec := "fnExactPegAt", apart := false }
def FnExactPegAtSaid : Prop := fnExactPegAtRow.holds Try.pinned (OpenSpec.ofChange fnExactPegAtSpec)

/-- ITS FALSE NEIGHBOUR: 'it returns false'. Refute it at one input. -/
def fnExactPegAtWrong : ChangeSpec := { name := "fnExactPegAt", fn := fun _ => fun
  | [d1, d2] => { results := [.lit (.bool false)], args := [d1, d2] }
  | _ => none }
def FnExactPegAtWrongFalsely : Prop := fnExactPegAtRow.holds Try.pinned (OpenSpec.ofChange fnExactPegAtWrong)

/-- 'laws.FnExactEndOf': WHATEVER THE INPUT: true; the input reads as it did. -/
def fnExactEndOfSpec : ChangeSpec := { name := "fnExactEndOf", fn := fun _ => fun
  | [d] => { results := [.lit (.bool true)], args := [d] }
  | _ => none }
def fnExactEndOfRow : OpenClaim := { program := "ytgbpkblhokjbbaa", sum := "d1c27bd35deb161fda47ddf53e71e2982b90356e7a6b3574b7b53d941c7d19e1", func := "loop.example/g01061/laws.FnExactEndOf", spec := "fnExactEndOf", apart := false }
def FnExactEndOfSaid : Prop := fnExactEndOfRow.holds Try.pinned (OpenSpec.ofChange fnExactEndOfSpec)

/-- ITS FALSE NEIGHBOUR: 'it returns false'. Refute it at one input. -/
def fnExactEndOfWrong : ChangeSpec := { name := "fnExactEndOf", fn := fun _ => fun
  | [d] => { results := [.lit (.bool false)], args := [d] }
  | _ => none }
def FnExactEndOfWrongFalsely : Prop := fnExactEndOfRow.holds Try.pinned (OpenSpec.ofChange fnExactEndOfWrong)

/-- 'laws.FnExactPaidFor': WHATEVER THE INPUT: true; the input reads as it did. -/
def fnExactPaidForSpec : ChangeSpec := { name := "fnExactPaidFor", fn := fun _ => fun
  | [d1, d2] => { results := [.lit (.bool true)], args := [d1, d2] }
  | _ => none }
def fnExactPaidForRow : OpenClaim := { program := "ytgbpkblhokjbbaa", sum := "d1c27bd35deb161fda47ddf53e71e2982b90356e7a6b3574b7b53d941c7d19e1", func := "loop.example/g01061/laws.FnExactPaidFor", spec := "fnExactPaidFor", apart := false }
def FnExactPaidForSaid : Prop := fnExactPaidForRow.holds Try.pinned (OpenSpec.ofChange fnExactPaidForSpec)

/-- ITS FALSE NEIGHBOUR: 'it returns false'. Refute it at one input. -/
def fnExactPaidForWrong : ChangeSpec := { name := "fnExactPaidFor", fn := fun _ => fun
  | [d1, d2] => { results := [.lit (.bool false)], args := [d1, d2] }
  | _ => none }
def FnExactPaidForWrongFalsely : Prop := fnExactPaidForRow.holds Try.pinned (OpenSpec.ofChange fnExactPaidForWrong)

/-- 'laws.FnExactHoursFor': WHATEVER THE INPUT: true; the input reads as it did. -/
def fnExactHoursForSpec : ChangeSpec := { name := "fnExactHoursFor", fn := fun _ => fun
  | [d1, d2] => { results := [.lit (.bool true)], args := [d1, d2] }
  | _ => none }
def fnExactHoursForRow : OpenClaim := { program := "ytgbpkblhokjbbaa", sum := "d1c27bd35deb161fda47ddf53e71e2982b90356e7a6b3574b7b53d941c7d19e1", func := "loop.example/g01061/laws.FnExactHoursFor", spec := "fnExactHoursFor", apart := false }
def FnExactHoursForSaid : Prop := fnExactHoursForRow.holds Try.pinned (OpenSpec.ofChange fnExactHoursForSpec)

/-- ITS FALSE NEIGHBOUR: 'it returns false'. Refute it at one input. -/
def fnExactHoursForWrong : ChangeSpec := { name := "fnExactHoursFor", fn := fun _ => fun
  | [d1, d2] => { results := [.lit (.bool false)], args := [d1, d2] }
  | _ => none }
def FnExactHoursForWrongFalsely : Prop := fnExactHoursForRow.holds Try.pinned (OpenSpec.ofChange fnExactHoursForWrong)

/-- 'laws.FnExactMarginFor': WHATEVER THE INPUT: true; the input reads as it did. -/
def fnExactMarginForSpec : ChangeSpec := { name := "fnExactMarginFor", fn := fun _ => fun
  | [d1, d2] => { results := [.lit (.bool true)], args := [d1, d2] }
  | _ => none }
def fnExactMarginForRow : OpenClaim := { program := "ytgbpkblhokjbbaa", sum := "d1c27bd35deb161fda47ddf53e71e2982b90356e7a6b3574b7b53d941c7d19e1", func := "loop.example/g01061/laws.FnExactMarginFor", spec := "fnExactMarginFor", apart := false }
def FnExactMarginForSaid : Prop := fnExactMarginForRow.holds Try.pinned (OpenSpec.ofChange fnExactMarginForSpec)

/-- ITS FALSE NEIGHBOUR: 'it returns false'. Refute it at one input. -/
def fnExactMarginForWrong : ChangeSpec := { name := "fnExactMarginFor", fn := fun _ => fun
  | [d1, d2] => { results := [.lit (.bool false)], args := [d1, d2] }
  | _ => none }
def FnExactMarginForWrongFalsely : Prop := fnExactMarginForRow.holds Try.pinned (OpenSpec.ofChange fnExactMarginForWrong)

/-- 'laws.FnExactWayIn': WHATEVER THE INPUT: true; the input reads as it did. -/
def fnExactWayInSpec : ChangeSpec := { name := "fnExactWayIn", fn := fun _ => fun
  | [d1, d2] => { results := [.lit (.bool true)], args := [d1, d2] }
  | _ => none }
def fnExactWayInRow : OpenClaim := { program := "ytgbpkblhokjbbaa", sum := "d1c27bd35deb161fda47ddf53e71e2982b90356e7a6b3574b7b53d941c7d19e1", func := "loop.example/g01061/laws.FnExactWayIn", spec := "fnExactWayIn", apart := false }
def FnExactWayInSaid : Prop := fnExactWayInRow.holds Try.pinned (OpenSpec.ofChange fnExactWayInSpec)

/-- ITS FALSE NEIGHBOUR: 'it returns false'. Refute it at one input. -/
def fnExactWayInWrong : ChangeSpec := { name := "fnExactWayIn", fn := fun _ => fun
  | [d1, d2] => { results := [.lit (.bool false)], args := [d1, d2] }
  | _ => none }
def FnExactWayInWrongFalsely : Prop := fnExactWayInRow.holds Try.pinned (OpenSpec.ofChange fnExactWayInWrong)

/-- 'laws.FnExactDueBy': WHATEVER THE INPUT: true; the input reads as it did. -/
def fnExactDueBySpec : ChangeSpec := { name := "fnExactDueBy", fn := fun _ => fun
  | [d1, d2] => { results := [.lit (.bool true)], args := [d1, d2] }
  | _ => none }
def fnExactDueByRow : OpenClaim := { program := "ytgbpkblhokjbbaa", sum := "d1c27bd35deb161fda47ddf53e71e2982b90356e7a6b3574b7b53d941c7d19e1", func := "loop.example/g01061/laws.FnExactDueBy", spec := "fnExactDueBy", apart := false }
def FnExactDueBySaid : Prop := fnExactDueByRow.holds Try.pinned (OpenSpec.ofChange fnExactDueBySpec)

/-- ITS FALSE NEIGHBOUR: 'it returns false'. Refute it at one input. -/
def fnExactDueByWrong : ChangeSpec := { name := "fnExactDueBy", fn := fun _ => fun
  | [d1, d2] => { results := [.lit (.bool false)], args := [d1, d2] }
  | _ => none }
def FnExactDueByWrongFalsely : Prop := fnExactDueByRow.holds Try.pinned (OpenSpec.ofChange fnExactDueByWrong)

/-- 'laws.FnExactBuyPrice': WHATEVER THE INPUT: true; the input reads as it did. -/
def fnExactBuyPriceSpec : ChangeSpec := { name := "fnExactBuyPrice", fn := fun _ => fun
  | [d1, d2, d3, d4] => { results := [.lit (.bool true)], args := [d1, d2, d3, d4] }
  | _ => none }
def fnExactBuyPriceRow : OpenClaim := { program := "ytgbpkblhokjbbaa", sum := "d1c27bd35deb161fda47ddf53e71e2982b90356e7a6b3574b7b53d941c7d19e1", func := "loop.example/g01061/laws.FnExactBuyPrice", spec := "fnExactBuyPrice", apart := false }
def FnExactBuyPriceSaid : Prop := fnExactBuyPriceRow.holds Try.pinned (OpenSpec.ofChange fnExactBuyPriceSpec)

/-- ITS FALSE NEIGHBOUR: 'it returns false'. Refute it at one input. -/
def fnExactBuyPriceWrong : ChangeSpec := { name := "fnExactBuyPrice", fn := fun _ => fun
  | [d1, d2, d3, d4] => { results := [.lit (.bool false)], args := [d1, d2, d3, d4] }
  | _ => none }
def FnExactBuyPriceWrongFalsely : Prop := fnExactBuyPriceRow.holds Try.pinned (OpenSpec.ofChange fnExactBuyPriceWrong)

/-- 'laws.FnExactWorthFrom': WHATEVER THE INPUT: true; the input reads as it did. -/
def fnExactWorthFromSpec : ChangeSpec := { name := "fnExactWorthFrom", fn := fun _ => fun
  | [d] => { results := [.lit (.bool true)], args := [d] }
  | _ => none }
def fnExactWorthFromRow : OpenClaim := { program := "ytgbpkblhokjbbaa", sum := "d1c27bd35deb161fda47ddf53e71e2982b90356e7a6b3574b7b53d941c7d19e1", func := "loop.example/g01061/laws.FnExactWorthFrom", spec := "fnExactWorthFrom", apart := false }
def FnExactWorthFromSaid : Prop := fnExactWorthFromRow.holds Try.pinned (OpenSpec.ofChange fnExactWorthFromSpec)

/-- ITS FALSE NEIGHBOUR: 'it returns false'. Refute it at one input. -/
def fnExactWorthFromWrong : ChangeSpec := { name := "fnExactWorthFrom", fn := fun _ => fun
  | [d] => { results := [.lit (.bool false)], args := [d] }
  | _ => none }
def FnExactWorthFromWrongFalsely : Prop := fnExactWorthFromRow.holds Try.pinned (OpenSpec.ofChange fnExactWorthFromWrong)

/- THE SECOND FORM. 'bulk': how many values and letters a reading holds, each counted each time it is reached (what is shared counts as often as it is met; a slice's spare places count too). A statement '..UptoSaid' is the law's where the arguments, and the package variables that the reading takes, are together of bulk at most 1048576: NARROWER than '..Said'. Prove '..Said' where nothing that the law and all that it calls make is longer than what came in: it says more and counts as full. Else prove '..UptoSaid'. A law counts once. -/
mutual
def uptoBulk {H : Type} : DataW H → Nat
  | .lit (.string bytes) => bytes.length + 1
  | .lit _ => 1
  | .nil => 1
  | .ptr d => uptoBulk d + 1
  | .slice elems spare => uptoBulkAll elems + uptoBulkAll spare + 1
  | .agg parts => uptoBulkAll parts + 1
  | .iface _ d => uptoBulk d + 1
  | .map entries => uptoBulkEntries entries + 1
  | .held _ => 1
def uptoBulkAll {H : Type} : List (DataW H) → Nat
  | [] => 0
  | d :: r => uptoBulk d + uptoBulkAll r
def uptoBulkEntries {H : Type} : List (Lit × DataW H) → Nat
  | [] => 0
  | x :: r => uptoBulkEntry x + uptoBulkEntries r
def uptoBulkEntry {H : Type} : Lit × DataW H → Nat
  | (.string bytes, d) => bytes.length + uptoBulk d + 1
  | (_, d) => uptoBulk d + 1
 end
def uptoSmall : (H : Type) → List (DataW H) → Bool := fun _ ds => decide (uptoBulkAll ds ≤ 1048576)
def OpenSpec.upto (s : _root_.Go.ChangeSpec) : _root_.Go.OpenSpec := { _root_.Go.OpenSpec.ofChange s with cond := some uptoSmall }

/-- 'laws.FnExactBeatsOther', WHERE WHAT IT READS IS OF BULK AT MOST 1048576: true; the input reads as it did. -/
def fnExactBeatsOtherUptoRow : OpenClaim := { program := "ytgbpkblhokjbbaa", sum := "d1c27bd35deb161fda47ddf53e71e2982b90356e7a6b3574b7b53d941c7d19e1", func := "loop.example/g01061/laws.FnExactBeatsOther", spec := "fnExactBeatsOther", apart := false, narrowed := true }
def FnExactBeatsOtherUptoSaid : Prop := fnExactBeatsOtherUptoRow.holds Try.pinned (OpenSpec.upto fnExactBeatsOtherSpec)

/-- 'laws.FnExactCostOf', WHERE WHAT IT READS IS OF BULK AT MOST 1048576: true; the input reads as it did. -/
def fnExactCostOfUptoRow : OpenClaim := { program := "ytgbpkblhokjbbaa", sum := "d1c27bd35deb161fda47ddf53e71e2982b90356e7a6b3574b7b53d941c7d19e1", func := "loop.example/g01061/laws.FnExactCostOf", spec := "fnExactCostOf", apart := false, narrowed := true }
def FnExactCostOfUptoSaid : Prop := fnExactCostOfUptoRow.holds Try.pinned (OpenSpec.upto fnExactCostOfSpec)

/-- 'laws.FnExactPriceOf', WHERE WHAT IT READS IS OF BULK AT MOST 1048576: true; the input reads as it did. -/
def fnExactPriceOfUptoRow : OpenClaim := { program := "ytgbpkblhokjbbaa", sum := "d1c27bd35deb161fda47ddf53e71e2982b90356e7a6b3574b7b53d941c7d19e1", func := "loop.example/g01061/laws.FnExactPriceOf", spec := "fnExactPriceOf", apart := false, narrowed := true }
def FnExactPriceOfUptoSaid : Prop := fnExactPriceOfUptoRow.holds Try.pinned (OpenSpec.upto fnExactPriceOfSpec)

/-- 'laws.FnExactPegAt', WHERE WHAT IT READS IS OF BULK AT MOST 1048576: true; the input reads as it did. -/
def fnExactPegAtUptoRow : OpenClaim := { program := "ytgbpkblhokjbbaa", sum := "d1c27bd35deb161fda47ddf53e71e2982b90356e7a6b3574b7b53d941c7d19e1", func := "loop.example/g01061/laws.FnExactPegAt", spec := "fnExactPegAt", apart := false, narrowed := true }
def FnExactPegAtUptoSaid : Prop := fnExactPegAtUptoRow.holds Try.pinned (OpenSpec.upto fnExactPegAtSpec)

/-- 'laws.FnExactEndOf', WHERE WHAT IT READS IS OF BULK AT MOST 1048576: true; the input reads as it did. -/
def fnExactEndOfUptoRow : OpenClaim := { program := "ytgbpkblhokjbbaa", sum := "d1c27bd35deb161fda47ddf53e71e2982b90356e7a6b3574b7b53d941c7d19e1", func := "loop.example/g01061/laws.FnExactEndOf", spec := "fnExactEndOf", apart := false, narrowed := true }
def FnExactEndOfUptoSaid : Prop := fnExactEndOfUptoRow.holds Try.pinned (OpenSpec.upto fnExactEndOfSpec)

/-- 'laws.FnExactPaidFor', WHERE WHAT IT READS IS OF BULK AT MOST 1048576: true; the input reads as it did. -/
def fnExactPaidForUptoRow : OpenClaim := { program := "ytgbpkblhokjbbaa", sum := "d1c27bd35deb161fda47ddf53e71e2982b90356e7a6b3574b7b53d941c7d19e1", func := "loop.example/g01061/laws.FnExactPaidFor", spec := "fnExactPaidFor", apart := false, narrowed := true }
def FnExactPaidForUptoSaid : Prop := fnExactPaidForUptoRow.holds Try.pinned (OpenSpec.upto fnExactPaidForSpec)

/-- 'laws.FnExactHoursFor', WHERE WHAT IT READS IS OF BULK AT MOST 1048576: true; the input reads as it did. -/
def fnExactHoursForUptoRow : OpenClaim := { program := "ytgbpkblhokjbbaa", sum := "d1c27bd35deb161fda47ddf53e71e2982b90356e7a6b3574b7b53d941c7d19e1", func := "loop.example/g01061/laws.FnExactHoursFor", spec := "fnExactHoursFor", apart := false, narrowed := true }
def FnExactHoursForUptoSaid : Prop := fnExactHoursForUptoRow.holds Try.pinned (OpenSpec.upto fnExactHoursForSpec)

/-- 'laws.FnExactMarginFor', WHERE WHAT IT READS IS OF BULK AT MOST 1048576: true; the input reads as it did. -/
def fnExactMarginForUptoRow : OpenClaim := { program := "ytgbpkblhokjbbaa", sum := "d1c27bd35deb161fda47ddf53e71e2982b90356e7a6b3574b7b53d941c7d19e1", func := "loop.example/g01061/laws.FnExactMarginFor", spec := "fnExactMarginFor", apart := false, narrowed := true }
def FnExactMarginForUptoSaid : Prop := fnExactMarginForUptoRow.holds Try.pinned (OpenSpec.upto fnExactMarginForSpec)

/-- 'laws.FnExactWayIn', WHERE WHAT IT READS IS OF BULK AT MOST 1048576: true; the input reads as it did. -/
def fnExactWayInUptoRow : OpenClaim := { program := "ytgbpkblhokjbbaa", sum := "d1c27bd35deb161fda47ddf53e71e2982b90356e7a6b3574b7b53d941c7d19e1", func := "loop.example/g01061/laws.FnExactWayIn", spec := "fnExactWayIn", apart := false, narrowed := true }
def FnExactWayInUptoSaid : Prop := fnExactWayInUptoRow.holds Try.pinned (OpenSpec.upto fnExactWayInSpec)

/-- 'laws.FnExactDueBy', WHERE WHAT IT READS IS OF BULK AT MOST 1048576: true; the input reads as it did. -/
def fnExactDueByUptoRow : OpenClaim := { program := "ytgbpkblhokjbbaa", sum := "d1c27bd35deb161fda47ddf53e71e2982b90356e7a6b3574b7b53d941c7d19e1", func := "loop.example/g01061/laws.FnExactDueBy", spec := "fnExactDueBy", apart := false, narrowed := true }
def FnExactDueByUptoSaid : Prop := fnExactDueByUptoRow.holds Try.pinned (OpenSpec.upto fnExactDueBySpec)

/-- 'laws.FnExactBuyPrice', WHERE WHAT IT READS IS OF BULK AT MOST 1048576: true; the input reads as it did. -/
def fnExactBuyPriceUptoRow : OpenClaim := { program := "ytgbpkblhokjbbaa", sum := "d1c27bd35deb161fda47ddf53e71e2982b90356e7a6b3574b7b53d941c7d19e1", func := "loop.example/g01061/laws.FnExactBuyPrice", spec := "fnExactBuyPrice", apart := false, narrowed := true }
def FnExactBuyPriceUptoSaid : Prop := fnExactBuyPriceUptoRow.holds Try.pinned (OpenSpec.upto fnExactBuyPriceSpec)

/-- 'laws.FnExactWorthFrom', WHERE WHAT IT READS IS OF BULK AT MOST 1048576: true; the input reads as it did. -/
def fnExactWorthFromUptoRow : OpenClaim := { program := "ytgbpkblhokjbbaa", sum := "d1c27bd35deb161fda47ddf53e71e2982b90356e7a6b3574b7b53d941c7d19e1", func := "loop.example/g01061/laws.FnExactWorthFrom", spec := "fnExactWorthFrom", apart := false, narrowed := true }
def FnExactWorthFromUptoSaid : Prop := fnExactWorthFromUptoRow.holds Try.pinned (OpenSpec.upto fnExactWorthFromSpec)

end Rows
end Go.Proofs.Ytgbpkblhokjbbaa
