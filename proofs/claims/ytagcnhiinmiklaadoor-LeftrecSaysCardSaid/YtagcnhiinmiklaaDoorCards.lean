/-
  DERIVED. GIVEN WITH THE SEED: THE CARDS: each row of YtagcnhiinmiklaaDoorRows.lean that lists a variable, with what it lists TIED to the program's text (the seventh form; the later family's looks); each row that meets fmt, with fmt's text TOLD by the authors' own Lean function (tested against real Go, not proved from fmt's source: count such statements apart). THE CARD IS WHAT COUNTS. Prove the row's statement (the work); the ties are given (YtagcnhiinmiklaaDoorTie.lean); close each card by the builder's one call (the guide's Derived/Test/ToyasCard.lean, 'card_holds'). Laid BY PROGRAM, IN A SANDBOX (cutbox-door.mjs). By AI agents, Wed Nov 11 2026. No macro, syntax, notation, axiom, sorry.
-/
import Derived.Test.YtagcnhiinmiklaaDoorRows
import GoSem.ClaimSeven
namespace Go.Proofs.YtagcnhiinmiklaaDoor
namespace Rows

/-- THE TIED CARD OF 'parllaw2.LeftrecSays'. -/
def leftrecSaysCard : Claim7 := { stood := { row := leftrecSaysRow, standIns := [], harness := (true, "f11767f7998fdbed6207b878eae14e34ba98ae0c61988ae811f6a632502db322"), looks := false }, kinds := [], alts := [], laidByText := true, laidKinds := [.data, .data, .data], laidTests := true, laidLooks := .later }
def LeftrecSaysCardSaid : Prop := Claim7.holds Tryd.pinned (.plain (OpenSpec.ofChange leftrecSaysSpec)) leftrecSaysCard

/-- THE SECOND FORM's CARD OF 'parllaw2.LeftrecSays'. -/
def leftrecSaysUptoCard : Claim7 := { stood := { row := leftrecSaysUptoRow, standIns := [], harness := (true, "f11767f7998fdbed6207b878eae14e34ba98ae0c61988ae811f6a632502db322"), looks := false }, kinds := [], alts := [], laidByText := true, laidKinds := [.data, .data, .data], laidTests := true, laidLooks := .later }
def LeftrecSaysUptoCardSaid : Prop := Claim7.holds Tryd.pinned (.plain (OpenSpec.upto leftrecSaysSpec)) leftrecSaysUptoCard
end Rows
end Go.Proofs.YtagcnhiinmiklaaDoor
