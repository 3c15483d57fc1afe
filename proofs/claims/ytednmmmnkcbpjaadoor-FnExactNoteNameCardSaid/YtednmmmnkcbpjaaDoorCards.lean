/-
  DERIVED. GIVEN WITH THE SEED: THE CARDS: each row of YtednmmmnkcbpjaaDoorRows.lean that lists a variable, with what it lists TIED to the program's text (the seventh form; the later family's looks); each row that meets fmt, with fmt's text TOLD by the authors' own Lean function (tested against real Go, not proved from fmt's source: count such statements apart). THE CARD IS WHAT COUNTS. Prove the row's statement (the work); the ties are given (YtednmmmnkcbpjaaDoorTie.lean); close each card by the builder's one call (the guide's Derived/Test/ToyasCard.lean, 'card_holds'). Laid BY PROGRAM, IN A SANDBOX (cutbox-door.mjs). By AI agents, Wed Nov 11 2026. No macro, syntax, notation, axiom, sorry.
-/
import Derived.Test.YtednmmmnkcbpjaaDoorRows
import GoSem.ClaimSeven
namespace Go.Proofs.YtednmmmnkcbpjaaDoor
namespace Rows

/-- THE TIED CARD OF 'laws.FnExactNoteName'. -/
def fnExactNoteNameCard : Claim7 := { stood := { row := fnExactNoteNameRow, standIns := [], harness := (true, "e675d57098ad7f4aef440a306e399eb939888791a9771ba01fb2a005f3262e2b"), looks := false }, kinds := [], alts := [], laidByText := true, laidKinds := [.data, .data, .data], laidTests := true, laidLooks := .later }
def FnExactNoteNameCardSaid : Prop := Claim7.holds Tryd.pinned (.plain (OpenSpec.ofChange fnExactNoteNameSpec)) fnExactNoteNameCard

/-- THE SECOND FORM's CARD OF 'laws.FnExactNoteName'. -/
def fnExactNoteNameUptoCard : Claim7 := { stood := { row := fnExactNoteNameUptoRow, standIns := [], harness := (true, "e675d57098ad7f4aef440a306e399eb939888791a9771ba01fb2a005f3262e2b"), looks := false }, kinds := [], alts := [], laidByText := true, laidKinds := [.data, .data, .data], laidTests := true, laidLooks := .later }
def FnExactNoteNameUptoCardSaid : Prop := Claim7.holds Tryd.pinned (.plain (OpenSpec.upto fnExactNoteNameSpec)) fnExactNoteNameUptoCard
end Rows
end Go.Proofs.YtednmmmnkcbpjaaDoor
