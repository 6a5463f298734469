/-
  DERIVED. GIVEN WITH THE SEED: THE CARDS: each row of YtabehgggahnopaaDoorRows.lean that lists a variable, with what it lists TIED to the program's text (the seventh form; the later family's looks); each row that meets fmt, with fmt's text TOLD by the authors' own Lean function (tested against real Go, not proved from fmt's source: count such statements apart). THE CARD IS WHAT COUNTS. Prove the row's statement (the work); the ties are given (YtabehgggahnopaaDoorTie.lean); close each card by the builder's one call (the guide's Derived/Test/ToyasCard.lean, 'card_holds'). Laid BY PROGRAM, IN A SANDBOX (cutbox-door.mjs). By AI agents, Wed Nov 11 2026. No macro, syntax, notation, axiom, sorry.
-/
import Derived.Test.YtabehgggahnopaaDoorRows
import GoSem.ClaimSeven
namespace Go.Proofs.YtabehgggahnopaaDoor
namespace Rows

/-- THE TIED CARD OF 'parlkeep2.NormalEmpty'. -/
def normalEmptyCard : Claim7 := { stood := { row := normalEmptyRow, standIns := [], harness := (true, "f49fa3c635a1312d38354cdd33660135b309171e876c901649f4cdae872e1607"), looks := false }, kinds := [], alts := [], laidByText := true, laidKinds := [.data], laidTests := true, laidLooks := .later }
def NormalEmptyCardSaid : Prop := Claim7.holds Tryd.pinned (.plain (OpenSpec.ofChange normalEmptySpec)) normalEmptyCard

/-- THE TIED CARD OF 'parllaw2.LayoutTokens'. -/
def layoutTokensCard : Claim7 := { stood := { row := layoutTokensRow, standIns := [], harness := (true, "f49fa3c635a1312d38354cdd33660135b309171e876c901649f4cdae872e1607"), looks := false }, kinds := [], alts := [], laidByText := true, laidKinds := [.data, .pinned], laidTests := true, laidLooks := .later }
def LayoutTokensCardSaid : Prop := Claim7.holds Tryd.pinned (.plain (OpenSpec.ofChange layoutTokensSpec)) layoutTokensCard

/-- THE TIED CARD OF 'parllaw2.ClosedPuts'. -/
def closedPutsCard : Claim7 := { stood := { row := closedPutsRow, standIns := [], harness := (true, "f49fa3c635a1312d38354cdd33660135b309171e876c901649f4cdae872e1607"), looks := false }, kinds := [], alts := [], laidByText := true, laidKinds := [.data, .data, .data], laidTests := true, laidLooks := .later }
def ClosedPutsCardSaid : Prop := Claim7.holds Tryd.pinned (.plain (OpenSpec.ofChange closedPutsSpec)) closedPutsCard

/-- THE TIED CARD OF 'parllaw2.CycleSays'. -/
def cycleSaysCard : Claim7 := { stood := { row := cycleSaysRow, standIns := [], harness := (true, "f49fa3c635a1312d38354cdd33660135b309171e876c901649f4cdae872e1607"), looks := false }, kinds := [], alts := [], laidByText := true, laidKinds := [.data, .data, .data], laidTests := true, laidLooks := .later }
def CycleSaysCardSaid : Prop := Claim7.holds Tryd.pinned (.plain (OpenSpec.ofChange cycleSaysSpec)) cycleSaysCard

/-- THE SECOND FORM's CARD OF 'parlkeep2.NormalEmpty'. -/
def normalEmptyUptoCard : Claim7 := { stood := { row := normalEmptyUptoRow, standIns := [], harness := (true, "f49fa3c635a1312d38354cdd33660135b309171e876c901649f4cdae872e1607"), looks := false }, kinds := [], alts := [], laidByText := true, laidKinds := [.data], laidTests := true, laidLooks := .later }
def NormalEmptyUptoCardSaid : Prop := Claim7.holds Tryd.pinned (.plain (OpenSpec.upto normalEmptySpec)) normalEmptyUptoCard

/-- THE SECOND FORM's CARD OF 'parllaw2.LayoutTokens'. -/
def layoutTokensUptoCard : Claim7 := { stood := { row := layoutTokensUptoRow, standIns := [], harness := (true, "f49fa3c635a1312d38354cdd33660135b309171e876c901649f4cdae872e1607"), looks := false }, kinds := [], alts := [], laidByText := true, laidKinds := [.data, .pinned], laidTests := true, laidLooks := .later }
def LayoutTokensUptoCardSaid : Prop := Claim7.holds Tryd.pinned (.plain (OpenSpec.upto layoutTokensSpec)) layoutTokensUptoCard

/-- THE SECOND FORM's CARD OF 'parllaw2.ClosedPuts'. -/
def closedPutsUptoCard : Claim7 := { stood := { row := closedPutsUptoRow, standIns := [], harness := (true, "f49fa3c635a1312d38354cdd33660135b309171e876c901649f4cdae872e1607"), looks := false }, kinds := [], alts := [], laidByText := true, laidKinds := [.data, .data, .data], laidTests := true, laidLooks := .later }
def ClosedPutsUptoCardSaid : Prop := Claim7.holds Tryd.pinned (.plain (OpenSpec.upto closedPutsSpec)) closedPutsUptoCard

/-- THE SECOND FORM's CARD OF 'parllaw2.CycleSays'. -/
def cycleSaysUptoCard : Claim7 := { stood := { row := cycleSaysUptoRow, standIns := [], harness := (true, "f49fa3c635a1312d38354cdd33660135b309171e876c901649f4cdae872e1607"), looks := false }, kinds := [], alts := [], laidByText := true, laidKinds := [.data, .data, .data], laidTests := true, laidLooks := .later }
def CycleSaysUptoCardSaid : Prop := Claim7.holds Tryd.pinned (.plain (OpenSpec.upto cycleSaysSpec)) cycleSaysUptoCard
end Rows
end Go.Proofs.YtabehgggahnopaaDoor
