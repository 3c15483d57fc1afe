/-
  No cell of these rows narrows 'for every input' (looked for: loops, veiled, ifaces, maps, wideKeys, modest, calm, conditions, laid).
  DERIVED. THE GIVEN ROWS OF THIS SEAT. 12 by the template 'for every input the law returns true; each argument reads behind the call as it read before'; 0 by the template 'total and deterministic' (their statements: YtbkmfhdagnlgiaaTotals.lean).
  GIVEN WITH THE SEED: the statements are not yours to turn. If you find one false, say at which input.
  Laid BY PROGRAM, IN A SANDBOX (cutbox-rows.mjs): the forced cells as the released guide's own fill.sh prints them over the translation c7e172fa49a2fa1e… (all of the seat's roots in one cut). By AI agents, Wed Nov 11 2026. No macro, syntax, notation, axiom, sorry.
-/
import Derived.Test.YtbkmfhdagnlgiaaChecked
import GoSem.Claim
import GoSem.ClaimJoined
import GoSem.ClaimMapViews
import Derived.JoinedTies
import Derived.KernelRfl
namespace Go.Proofs.Ytbkmfhdagnlgiaa
/- THE CELL 'sum', in the pinned program and in every row, IS THE sha256 OF THE DUMP (.gsa) THAT YtbkmfhdagnlgiaaProg.lean LOADS. Nothing in Lean hashes anything: it is a label: what it is worth is what the hold of that sum in a sandbox is worth. -/
noncomputable def Try.pinned : Pinned := { name := "ytbkmfhdagnlgiaa", sum := "c7e172fa49a2fa1ea29c35786b68e86d1d4c120280ec8b80a62774e71f9f24b4", checked := Try.checked }
namespace Rows
def none {H : Type} : Left H := { results := [], args := [] }

/-- 'laws.FnExactVisitKind': WHATEVER THE INPUT: true; the input reads as it did. -/
def fnExactVisitKindSpec : ChangeSpec := { name := "fnExactVisitKind", fn := fun _ => fun
  | [d] => { results := [.lit (.bool true)], args := [d] }
  | _ => none }
def fnExactVisitKindRow : OpenClaim := { program := "ytbkmfhdagnlgiaa", sum := "c7e172fa49a2fa1ea29c35786b68e86d1d4c120280ec8b80a62774e71f9f24b4", func := "loop.example/g01061/laws.FnExactVisitKind", spec := "fnExactVisitKind", apart := false }
def FnExactVisitKindSaid : Prop := fnExactVisitKindRow.holds Try.pinned (OpenSpec.ofChange fnExactVisitKindSpec)

/-- ITS FALSE NEIGHBOUR: 'it returns false'. Refute it at one input. -/
def fnExactVisitKindWrong : ChangeSpec := { name := "fnExactVisitKind", fn := fun _ => fun
  | [d] => { results := [.lit (.bool false)], args := [d] }
  | _ => none }
def FnExactVisitKindWrongFalsely : Prop := fnExactVisitKindRow.holds Try.pinned (OpenSpec.ofChange fnExactVisitKindWrong)

/-- 'laws.FnExactNoteTone': WHATEVER THE INPUT: true; the input reads as it did. -/
def fnExactNoteToneSpec : ChangeSpec := { name := "fnExactNoteTone", fn := fun _ => fun
  | [d] => { results := [.lit (.bool true)], args := [d] }
  | _ => none }
def fnExactNoteToneRow : OpenClaim := { program := "ytbkmfhdagnlgiaa", sum := "c7e172fa49a2fa1ea29c35786b68e86d1d4c120280ec8b80a62774e71f9f24b4", func := "loop.example/g01061/laws.FnExactNoteTone", spec := "fnExactNoteTone", apart := false }
def FnExactNoteToneSaid : Prop := fnExactNoteToneRow.holds Try.pinned (OpenSpec.ofChange fnExactNoteToneSpec)

/-- ITS FALSE NEIGHBOUR: 'it returns false'. Refute it at one input. -/
def fnExactNoteToneWrong : ChangeSpec := { name := "fnExactNoteTone", fn := fun _ => fun
  | [d] => { results := [.lit (.bool false)], args := [d] }
  | _ => none }
def FnExactNoteToneWrongFalsely : Prop := fnExactNoteToneRow.holds Try.pinned (OpenSpec.ofChange fnExactNoteToneWrong)

/-- 'laws.FnExactMonthsToBuy': WHATEVER THE INPUT: true; the input reads as it did. -/
def fnExactMonthsToBuySpec : ChangeSpec := { name := "fnExactMonthsToBuy", fn := fun _ => fun
  | [d1, d2, d3] => { results := [.lit (.bool true)], args := [d1, d2, d3] }
  | _ => none }
def fnExactMonthsToBuyRow : OpenClaim := { program := "ytbkmfhdagnlgiaa", sum := "c7e172fa49a2fa1ea29c35786b68e86d1d4c120280ec8b80a62774e71f9f24b4", func := "loop.example/g01061/laws.FnExactMonthsToBuy", spec := "fnExactMonthsToBuy", apart := false }
def FnExactMonthsToBuySaid : Prop := fnExactMonthsToBuyRow.holds Try.pinned (OpenSpec.ofChange fnExactMonthsToBuySpec)

/-- ITS FALSE NEIGHBOUR: 'it returns false'. Refute it at one input. -/
def fnExactMonthsToBuyWrong : ChangeSpec := { name := "fnExactMonthsToBuy", fn := fun _ => fun
  | [d1, d2, d3] => { results := [.lit (.bool false)], args := [d1, d2, d3] }
  | _ => none }
def FnExactMonthsToBuyWrongFalsely : Prop := fnExactMonthsToBuyRow.holds Try.pinned (OpenSpec.ofChange fnExactMonthsToBuyWrong)

/-- 'laws.FnExactSellerGets': WHATEVER THE INPUT: true; the input reads as it did. -/
def fnExactSellerGetsSpec : ChangeSpec := { name := "fnExactSellerGets", fn := fun _ => fun
  | [d1, d2, d3] => { results := [.lit (.bool true)], args := [d1, d2, d3] }
  | _ => none }
def fnExactSellerGetsRow : OpenClaim := { program := "ytbkmfhdagnlgiaa", sum := "c7e172fa49a2fa1ea29c35786b68e86d1d4c120280ec8b80a62774e71f9f24b4", func := "loop.example/g01061/laws.FnExactSellerGets", spec := "fnExactSellerGets", apart := false }
def FnExactSellerGetsSaid : Prop := fnExactSellerGetsRow.holds Try.pinned (OpenSpec.ofChange fnExactSellerGetsSpec)

/-- ITS FALSE NEIGHBOUR: 'it returns false'. Refute it at one input. -/
def fnExactSellerGetsWrong : ChangeSpec := { name := "fnExactSellerGets", fn := fun _ => fun
  | [d1, d2, d3] => { results := [.lit (.bool false)], args := [d1, d2, d3] }
  | _ => none }
def FnExactSellerGetsWrongFalsely : Prop := fnExactSellerGetsRow.holds Try.pinned (OpenSpec.ofChange fnExactSellerGetsWrong)

/-- 'laws.FnExactValidArc': WHATEVER THE INPUT: true; the input reads as it did. -/
def fnExactValidArcSpec : ChangeSpec := { name := "fnExactValidArc", fn := fun _ => fun
  | [d] => { results := [.lit (.bool true)], args := [d] }
  | _ => none }
def fnExactValidArcRow : OpenClaim := { program := "ytbkmfhdagnlgiaa", sum := "c7e172fa49a2fa1ea29c35786b68e86d1d4c120280ec8b80a62774e71f9f24b4", func := "loop.example/g01061/laws.FnExactValidArc", spec := "fnExactValidArc", apart := false }
def FnExactValidArcSaid : Prop := fnExactValidArcRow.holds Try.pinned (OpenSpec.ofChange fnExactValidArcSpec)

/-- ITS FALSE NEIGHBOUR: 'it returns false'. Refute it at one input. -/
def fnExactValidArcWrong : ChangeSpec := { name := "fnExactValidArc", fn := fun _ => fun
  | [d] => { results := [.lit (.bool false)], args := [d] }
  | _ => none }
def FnExactValidArcWrongFalsely : Prop := fnExactValidArcRow.holds Try.pinned (OpenSpec.ofChange fnExactValidArcWrong)

/-- 'laws.FnExactNoteOf': WHATEVER THE INPUT: true; the input reads as it did. -/
def fnExactNoteOfSpec : ChangeSpec := { name := "fnExactNoteOf", fn := fun _ => fun
  | [d] => { results := [.lit (.bool true)], args := [d] }
  | _ => none }
def fnExactNoteOfRow : OpenClaim := { program := "ytbkmfhdagnlgiaa", sum := "c7e172fa49a2fa1ea29c35786b68e86d1d4c120280ec8b80a62774e71f9f24b4", func := "loop.example/g01061/laws.FnExactNoteOf", spec := "fnExactNoteOf", apart := false }
def FnExactNoteOfSaid : Prop := fnExactNoteOfRow.holds Try.pinned (OpenSpec.ofChange fnExactNoteOfSpec)

/-- ITS FALSE NEIGHBOUR: 'it returns false'. Refute it at one input. -/
def fnExactNoteOfWrong : ChangeSpec := { name := "fnExactNoteOf", fn := fun _ => fun
  | [d] => { results := [.lit (.bool false)], args := [d] }
  | _ => none }
def FnExactNoteOfWrongFalsely : Prop := fnExactNoteOfRow.holds Try.pinned (OpenSpec.ofChange fnExactNoteOfWrong)

/-- 'laws.FnExactRadiusSquared': WHATEVER THE INPUT: true; the input reads as it did. -/
def fnExactRadiusSquaredSpec : ChangeSpec := { name := "fnExactRadiusSquared", fn := fun _ => fun
  | [d] => { results := [.lit (.bool true)], args := [d] }
  | _ => none }
def fnExactRadiusSquaredRow : OpenClaim := { program := "ytbkmfhdagnlgiaa", sum := "c7e172fa49a2fa1ea29c35786b68e86d1d4c120280ec8b80a62774e71f9f24b4", func := "loop.example/g01061/laws.FnExactRadiusSquared", spec := "fnExactRadiusSquared", apart := false }
def FnExactRadiusSquaredSaid : Prop := fnExactRadiusSquaredRow.holds Try.pinned (OpenSpec.ofChange fnExactRadiusSquaredSpec)

/-- ITS FALSE NEIGHBOUR: 'it returns false'. Refute it at one input. -/
def fnExactRadiusSquaredWrong : ChangeSpec := { name := "fnExactRadiusSquared", fn := fun _ => fun
  | [d] => { results := [.lit (.bool false)], args := [d] }
  | _ => none }
def FnExactRadiusSquaredWrongFalsely : Prop := fnExactRadiusSquaredRow.holds Try.pinned (OpenSpec.ofChange fnExactRadiusSquaredWrong)

/-- 'laws.FnExactIsSmoothJoint': WHATEVER THE INPUT: true; the input reads as it did. -/
def fnExactIsSmoothJointSpec : ChangeSpec := { name := "fnExactIsSmoothJoint", fn := fun _ => fun
  | [d1, d2] => { results := [.lit (.bool true)], args := [d1, d2] }
  | _ => none }
def fnExactIsSmoothJointRow : OpenClaim := { program := "ytbkmfhdagnlgiaa", sum := "c7e172fa49a2fa1ea29c35786b68e86d1d4c120280ec8b80a62774e71f9f24b4", func := "loop.example/g01061/laws.FnExactIsSmoothJoint", spec := "fnExactIsSmoothJoint", apart := false }
def FnExactIsSmoothJointSaid : Prop := fnExactIsSmoothJointRow.holds Try.pinned (OpenSpec.ofChange fnExactIsSmoothJointSpec)

/-- ITS FALSE NEIGHBOUR: 'it returns false'. Refute it at one input. -/
def fnExactIsSmoothJointWrong : ChangeSpec := { name := "fnExactIsSmoothJoint", fn := fun _ => fun
  | [d1, d2] => { results := [.lit (.bool false)], args := [d1, d2] }
  | _ => none }
def FnExactIsSmoothJointWrongFalsely : Prop := fnExactIsSmoothJointRow.holds Try.pinned (OpenSpec.ofChange fnExactIsSmoothJointWrong)

/-- 'laws.FnExactPriceToGet': WHATEVER THE INPUT: true; the input reads as it did. -/
def fnExactPriceToGetSpec : ChangeSpec := { name := "fnExactPriceToGet", fn := fun _ => fun
  | [d1, d2, d3] => { results := [.lit (.bool true)], args := [d1, d2, d3] }
  | _ => none }
def fnExactPriceToGetRow : OpenClaim := { program := "ytbkmfhdagnlgiaa", sum := "c7e172fa49a2fa1ea29c35786b68e86d1d4c120280ec8b80a62774e71f9f24b4", func := "loop.example/g01061/laws.FnExactPriceToGet", spec := "fnExactPriceToGet", apart := false }
def FnExactPriceToGetSaid : Prop := fnExactPriceToGetRow.holds Try.pinned (OpenSpec.ofChange fnExactPriceToGetSpec)

/-- ITS FALSE NEIGHBOUR: 'it returns false'. Refute it at one input. -/
def fnExactPriceToGetWrong : ChangeSpec := { name := "fnExactPriceToGet", fn := fun _ => fun
  | [d1, d2, d3] => { results := [.lit (.bool false)], args := [d1, d2, d3] }
  | _ => none }
def FnExactPriceToGetWrongFalsely : Prop := fnExactPriceToGetRow.holds Try.pinned (OpenSpec.ofChange fnExactPriceToGetWrong)

/-- 'laws.FnExactAfterDiscounts': WHATEVER THE INPUT: true; the input reads as it did. -/
def fnExactAfterDiscountsSpec : ChangeSpec := { name := "fnExactAfterDiscounts", fn := fun _ => fun
  | [d1, d2] => { results := [.lit (.bool true)], args := [d1, d2] }
  | _ => none }
def fnExactAfterDiscountsRow : OpenClaim := { program := "ytbkmfhdagnlgiaa", sum := "c7e172fa49a2fa1ea29c35786b68e86d1d4c120280ec8b80a62774e71f9f24b4", func := "loop.example/g01061/laws.FnExactAfterDiscounts", spec := "fnExactAfterDiscounts", apart := false }
def FnExactAfterDiscountsSaid : Prop := fnExactAfterDiscountsRow.holds Try.pinned (OpenSpec.ofChange fnExactAfterDiscountsSpec)

/-- ITS FALSE NEIGHBOUR: 'it returns false'. Refute it at one input. -/
def fnExactAfterDiscountsWrong : ChangeSpec := { name := "fnExactAfterDiscounts", fn := fun _ => fun
  | [d1, d2] => { results := [.lit (.bool false)], args := [d1, d2] }
  | _ => none }
def FnExactAfterDiscountsWrongFalsely : Prop := fnExactAfterDiscountsRow.holds Try.pinned (OpenSpec.ofChange fnExactAfterDiscountsWrong)

/-- 'laws.FnExactSplitPrice': WHATEVER THE INPUT: true; the input reads as it did. -/
def fnExactSplitPriceSpec : ChangeSpec := { name := "fnExactSplitPrice", fn := fun _ => fun
  | [d1, d2] => { results := [.lit (.bool true)], args := [d1, d2] }
  | _ => none }
def fnExactSplitPriceRow : OpenClaim := { program := "ytbkmfhdagnlgiaa", sum := "c7e172fa49a2fa1ea29c35786b68e86d1d4c120280ec8b80a62774e71f9f24b4", func := "loop.example/g01061/laws.FnExactSplitPrice", spec := "fnExactSplitPrice", apart := false }
def FnExactSplitPriceSaid : Prop := fnExactSplitPriceRow.holds Try.pinned (OpenSpec.ofChange fnExactSplitPriceSpec)

/-- ITS FALSE NEIGHBOUR: 'it returns false'. Refute it at one input. -/
def fnExactSplitPriceWrong : ChangeSpec := { name := "fnExactSplitPrice", fn := fun _ => fun
  | [d1, d2] => { results := [.lit (.bool false)], args := [d1, d2] }
  | _ => none }
def FnExactSplitPriceWrongFalsely : Prop := fnExactSplitPriceRow.holds Try.pinned (OpenSpec.ofChange fnExactSplitPriceWrong)

/-- 'laws.FnDiscounts': WHATEVER THE INPUT: true; the input reads as it did. -/
def fnDiscountsSpec : ChangeSpec := { name := "fnDiscounts", fn := fun _ => fun
  | [d1, d2] => { results := [.lit (.bool true)], args := [d1, d2] }
  | _ => none }
def fnDiscountsRow : OpenClaim := { program := "ytbkmfhdagnlgiaa", sum := "c7e172fa49a2fa1ea29c35786b68e86d1d4c120280ec8b80a62774e71f9f24b4", func := "loop.example/g01061/laws.FnDiscounts", spec := "fnDiscounts", apart := false }
def FnDiscountsSaid : Prop := fnDiscountsRow.holds Try.pinned (OpenSpec.ofChange fnDiscountsSpec)

/-- ITS FALSE NEIGHBOUR: 'it returns false'. Refute it at one input. -/
def fnDiscountsWrong : ChangeSpec := { name := "fnDiscounts", fn := fun _ => fun
  | [d1, d2] => { results := [.lit (.bool false)], args := [d1, d2] }
  | _ => none }
def FnDiscountsWrongFalsely : Prop := fnDiscountsRow.holds Try.pinned (OpenSpec.ofChange fnDiscountsWrong)

/- THE SECOND FORM. 'bulk': how many values and letters a reading holds, each counted each time it is reached (what is shared counts as often as it is met; a slice's spare places count too). A statement '..UptoSaid' is the law's where the arguments, and the package variables that the reading takes, are together of bulk at most 1048576: NARROWER than '..Said'. Prove '..Said' where nothing that the law and all that it calls make is longer than what came in: it says more and counts as full. Else prove '..UptoSaid'. A law counts once. -/
mutual
def uptoBulk {H : Type} : DataW H → Nat
  | .lit (.string bytes) => bytes.length + 1
  | .lit _ => 1
  | .nil => 1
  | .ptr d => uptoBulk d + 1
  | .slice elems spare => uptoBulkAll elems + uptoBulkAll spare + 1
  | .agg parts => uptoBulkAll parts + 1
  | .iface _ d => uptoBulk d + 1
  | .map entries => uptoBulkEntries entries + 1
  | .held _ => 1
def uptoBulkAll {H : Type} : List (DataW H) → Nat
  | [] => 0
  | d :: r => uptoBulk d + uptoBulkAll r
def uptoBulkEntries {H : Type} : List (Lit × DataW H) → Nat
  | [] => 0
  | x :: r => uptoBulkEntry x + uptoBulkEntries r
def uptoBulkEntry {H : Type} : Lit × DataW H → Nat
  | (.string bytes, d) => bytes.length + uptoBulk d + 1
  | (_, d) => uptoBulk d + 1
 end
def uptoSmall : (H : Type) → List (DataW H) → Bool := fun _ ds => decide (uptoBulkAll ds ≤ 1048576)
def OpenSpec.upto (s : _root_.Go.ChangeSpec) : _root_.Go.OpenSpec := { _root_.Go.OpenSpec.ofChange s with cond := some uptoSmall }

/-- 'laws.FnExactVisitKind', WHERE WHAT IT READS IS OF BULK AT MOST 1048576: true; the input reads as it did. -/
def fnExactVisitKindUptoRow : OpenClaim := { program := "ytbkmfhdagnlgiaa", sum := "c7e172fa49a2fa1ea29c35786b68e86d1d4c120280ec8b80a62774e71f9f24b4", func := "loop.example/g01061/laws.FnExactVisitKind", spec := "fnExactVisitKind", apart := false, narrowed := true }
def FnExactVisitKindUptoSaid : Prop := fnExactVisitKindUptoRow.holds Try.pinned (OpenSpec.upto fnExactVisitKindSpec)

/-- 'laws.FnExactNoteTone', WHERE WHAT IT READS IS OF BULK AT MOST 1048576: true; the input reads as it did. -/
def fnExactNoteToneUptoRow : OpenClaim := { program := "ytbkmfhdagnlgiaa", sum := "c7e172fa49a2fa1ea29c35786b68e86d1d4c120280ec8b80a62774e71f9f24b4", func := "loop.example/g01061/laws.FnExactNoteTone", spec := "fnExactNoteTone", apart := false, narrowed := true }
def FnExactNoteToneUptoSaid : Prop := fnExactNoteToneUptoRow.holds Try.pinned (OpenSpec.upto fnExactNoteToneSpec)

/-- 'laws.FnExactMonthsToBuy', WHERE WHAT IT READS IS OF BULK AT MOST 1048576: true; the input reads as it did. -/
def fnExactMonthsToBuyUptoRow : OpenClaim := { program := "ytbkmfhdagnlgiaa", sum := "c7e172fa49a2fa1ea29c35786b68e86d1d4c120280ec8b80a62774e71f9f24b4", func := "loop.example/g01061/laws.FnExactMonthsToBuy", spec := "fnExactMonthsToBuy", apart := false, narrowed := true }
def FnExactMonthsToBuyUptoSaid : Prop := fnExactMonthsToBuyUptoRow.holds Try.pinned (OpenSpec.upto fnExactMonthsToBuySpec)

/-- 'laws.FnExactSellerGets', WHERE WHAT IT READS IS OF BULK AT MOST 1048576: true; the input reads as it did. -/
def fnExactSellerGetsUptoRow : OpenClaim := { program := "ytbkmfhdagnlgiaa", sum := "c7e172fa49a2fa1ea29c35786b68e86d1d4c120280ec8b80a62774e71f9f24b4", func := "loop.example/g01061/laws.FnExactSellerGets", spec := "fnExactSellerGets", apart := false, narrowed := true }
def FnExactSellerGetsUptoSaid : Prop := fnExactSellerGetsUptoRow.holds Try.pinned (OpenSpec.upto fnExactSellerGetsSpec)

/-- 'laws.FnExactValidArc', WHERE WHAT IT READS IS OF BULK AT MOST 1048576: true; the input reads as it did. -/
def fnExactValidArcUptoRow : OpenClaim := { program := "ytbkmfhdagnlgiaa", sum := "c7e172fa49a2fa1ea29c35786b68e86d1d4c120280ec8b80a62774e71f9f24b4", func := "loop.example/g01061/laws.FnExactValidArc", spec := "fnExactValidArc", apart := false, narrowed := true }
def FnExactValidArcUptoSaid : Prop := fnExactValidArcUptoRow.holds Try.pinned (OpenSpec.upto fnExactValidArcSpec)

/-- 'laws.FnExactNoteOf', WHERE WHAT IT READS IS OF BULK AT MOST 1048576: true; the input reads as it did. -/
def fnExactNoteOfUptoRow : OpenClaim := { program := "ytbkmfhdagnlgiaa", sum := "c7e172fa49a2fa1ea29c35786b68e86d1d4c120280ec8b80a62774e71f9f24b4", func := "loop.example/g01061/laws.FnExactNoteOf", spec := "fnExactNoteOf", apart := false, narrowed := true }
def FnExactNoteOfUptoSaid : Prop := fnExactNoteOfUptoRow.holds Try.pinned (OpenSpec.upto fnExactNoteOfSpec)

/-- 'laws.FnExactRadiusSquared', WHERE WHAT IT READS IS OF BULK AT MOST 1048576: true; the input reads as it did. -/
def fnExactRadiusSquaredUptoRow : OpenClaim := { program := "ytbkmfhdagnlgiaa", sum := "c7e172fa49a2fa1ea29c35786b68e86d1d4c120280ec8b80a62774e71f9f24b4", func := "loop.example/g01061/laws.FnExactRadiusSquared", spec := "fnExactRadiusSquared", apart := false, narrowed := true }
def FnExactRadiusSquaredUptoSaid : Prop := fnExactRadiusSquaredUptoRow.holds Try.pinned (OpenSpec.upto fnExactRadiusSquaredSpec)

/-- 'laws.FnExactIsSmoothJoint', WHERE WHAT IT READS IS OF BULK AT MOST 1048576: true; the input reads as it did. -/
def fnExactIsSmoothJointUptoRow : OpenClaim := { program := "ytbkmfhdagnlgiaa", sum := "c7e172fa49a2fa1ea29c35786b68e86d1d4c120280ec8b80a62774e71f9f24b4", func := "loop.example/g01061/laws.FnExactIsSmoothJoint", spec := "fnExactIsSmoothJoint", apart := false, narrowed := true }
def FnExactIsSmoothJointUptoSaid : Prop := fnExactIsSmoothJointUptoRow.holds Try.pinned (OpenSpec.upto fnExactIsSmoothJointSpec)

/-- 'laws.FnExactPriceToGet', WHERE WHAT IT READS IS OF BULK AT MOST 1048576: true; the input reads as it did. -/
def fnExactPriceToGetUptoRow : OpenClaim := { program := "ytbkmfhdagnlgiaa", sum := "c7e172fa49a2fa1ea29c35786b68e86d1d4c120280ec8b80a62774e71f9f24b4", func := "loop.example/g01061/laws.FnExactPriceToGet", spec := "fnExactPriceToGet", apart := false, narrowed := true }
def FnExactPriceToGetUptoSaid : Prop := fnExactPriceToGetUptoRow.holds Try.pinned (OpenSpec.upto fnExactPriceToGetSpec)

/-- 'laws.FnExactAfterDiscounts', WHERE WHAT IT READS IS OF BULK AT MOST 1048576: true; the input reads as it did. -/
def fnExactAfterDiscountsUptoRow : OpenClaim := { program := "ytbkmfhdagnlgiaa", sum := "c7e172fa49a2fa1ea29c35786b68e86d1d4c120280ec8b80a62774e71f9f24b4", func := "loop.example/g01061/laws.FnExactAfterDiscounts", spec := "fnExactAfterDiscounts", apart := false, narrowed := true }
def FnExactAfterDiscountsUptoSaid : Prop := fnExactAfterDiscountsUptoRow.holds Try.pinned (OpenSpec.upto fnExactAfterDiscountsSpec)

/-- 'laws.FnExactSplitPrice', WHERE WHAT IT READS IS OF BULK AT MOST 1048576: true; the input reads as it did. -/
def fnExactSplitPriceUptoRow : OpenClaim := { program := "ytbkmfhdagnlgiaa", sum := "c7e172fa49a2fa1ea29c35786b68e86d1d4c120280ec8b80a62774e71f9f24b4", func := "loop.example/g01061/laws.FnExactSplitPrice", spec := "fnExactSplitPrice", apart := false, narrowed := true }
def FnExactSplitPriceUptoSaid : Prop := fnExactSplitPriceUptoRow.holds Try.pinned (OpenSpec.upto fnExactSplitPriceSpec)

/-- 'laws.FnDiscounts', WHERE WHAT IT READS IS OF BULK AT MOST 1048576: true; the input reads as it did. -/
def fnDiscountsUptoRow : OpenClaim := { program := "ytbkmfhdagnlgiaa", sum := "c7e172fa49a2fa1ea29c35786b68e86d1d4c120280ec8b80a62774e71f9f24b4", func := "loop.example/g01061/laws.FnDiscounts", spec := "fnDiscounts", apart := false, narrowed := true }
def FnDiscountsUptoSaid : Prop := fnDiscountsUptoRow.holds Try.pinned (OpenSpec.upto fnDiscountsSpec)

end Rows
end Go.Proofs.Ytbkmfhdagnlgiaa
