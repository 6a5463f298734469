/-
  DERIVED. GIVEN WITH THE SEED: THE CARDS: each row of YtecofoilghdedaaDoorRows.lean that lists a variable, with what it lists TIED to the program's text (the seventh form; the later family's looks); each row that meets fmt, with fmt's text TOLD by the authors' own Lean function (tested against real Go, not proved from fmt's source: count such statements apart). THE CARD IS WHAT COUNTS. Prove the row's statement (the work); the ties are given (YtecofoilghdedaaDoorTie.lean); close each card by the builder's one call (the guide's Derived/Test/ToyasCard.lean, 'card_holds'). Laid BY PROGRAM, IN A SANDBOX (cutbox-door.mjs). By AI agents, Wed Nov 11 2026. No macro, syntax, notation, axiom, sorry.
-/
import Derived.Test.YtecofoilghdedaaDoorRows
import GoSem.ClaimSeven
namespace Go.Proofs.YtecofoilghdedaaDoor
namespace Rows

/-- THE TIED CARD OF 'parlkeep2.NormalEmpty'. -/
def normalEmptyCard : Claim7 := { stood := { row := normalEmptyRow, standIns := [], harness := (true, "b1cc60199eabcd5f5f616d8c0166b3445f6682326827d7976d01aad9c9caadb8"), looks := false }, kinds := [], alts := [], laidByText := true, laidKinds := [.data], laidTests := true, laidLooks := .later }
def NormalEmptyCardSaid : Prop := Claim7.holds Tryd.pinned (.plain (OpenSpec.ofChange normalEmptySpec)) normalEmptyCard

/-- THE TIED CARD OF 'parllaw2.LayoutTokens'. -/
def layoutTokensCard : Claim7 := { stood := { row := layoutTokensRow, standIns := [], harness := (true, "b1cc60199eabcd5f5f616d8c0166b3445f6682326827d7976d01aad9c9caadb8"), looks := false }, kinds := [], alts := [], laidByText := true, laidKinds := [.data, .pinned], laidTests := true, laidLooks := .later }
def LayoutTokensCardSaid : Prop := Claim7.holds Tryd.pinned (.plain (OpenSpec.ofChange layoutTokensSpec)) layoutTokensCard

/-- THE TIED CARD OF 'parllaw2.InlineSays'. -/
def inlineSaysCard : Claim7 := { stood := { row := inlineSaysRow, standIns := [], harness := (true, "b1cc60199eabcd5f5f616d8c0166b3445f6682326827d7976d01aad9c9caadb8"), looks := false }, kinds := [], alts := [], laidByText := true, laidKinds := [.data, .data, .data], laidTests := true, laidLooks := .later }
def InlineSaysCardSaid : Prop := Claim7.holds Tryd.pinned (.plain (OpenSpec.ofChange inlineSaysSpec)) inlineSaysCard

/-- THE TIED CARD OF 'parllaw2.InlineMaps'. -/
def inlineMapsCard : Claim7 := { stood := { row := inlineMapsRow, standIns := [], harness := (true, "b1cc60199eabcd5f5f616d8c0166b3445f6682326827d7976d01aad9c9caadb8"), looks := false }, kinds := [], alts := [], laidByText := true, laidKinds := [.data, .data, .data], laidTests := true, laidLooks := .later }
def InlineMapsCardSaid : Prop := Claim7.holds Tryd.pinned (.plain (OpenSpec.ofChange inlineMapsSpec)) inlineMapsCard

/-- THE TIED CARD OF 'parllaw2.LeftrecMaps'. -/
def leftrecMapsCard : Claim7 := { stood := { row := leftrecMapsRow, standIns := [], harness := (true, "b1cc60199eabcd5f5f616d8c0166b3445f6682326827d7976d01aad9c9caadb8"), looks := false }, kinds := [], alts := [], laidByText := true, laidKinds := [.data, .data, .data], laidTests := true, laidLooks := .later }
def LeftrecMapsCardSaid : Prop := Claim7.holds Tryd.pinned (.plain (OpenSpec.ofChange leftrecMapsSpec)) leftrecMapsCard

/-- THE TIED CARD OF 'parllaw2.NormalSays'. -/
def normalSaysCard : Claim7 := { stood := { row := normalSaysRow, standIns := [], harness := (true, "b1cc60199eabcd5f5f616d8c0166b3445f6682326827d7976d01aad9c9caadb8"), looks := false }, kinds := [], alts := [], laidByText := true, laidKinds := [.data, .data, .data], laidTests := true, laidLooks := .later }
def NormalSaysCardSaid : Prop := Claim7.holds Tryd.pinned (.plain (OpenSpec.ofChange normalSaysSpec)) normalSaysCard

/-- THE SECOND FORM's CARD OF 'parlkeep2.NormalEmpty'. -/
def normalEmptyUptoCard : Claim7 := { stood := { row := normalEmptyUptoRow, standIns := [], harness := (true, "b1cc60199eabcd5f5f616d8c0166b3445f6682326827d7976d01aad9c9caadb8"), looks := false }, kinds := [], alts := [], laidByText := true, laidKinds := [.data], laidTests := true, laidLooks := .later }
def NormalEmptyUptoCardSaid : Prop := Claim7.holds Tryd.pinned (.plain (OpenSpec.upto normalEmptySpec)) normalEmptyUptoCard

/-- THE SECOND FORM's CARD OF 'parllaw2.LayoutTokens'. -/
def layoutTokensUptoCard : Claim7 := { stood := { row := layoutTokensUptoRow, standIns := [], harness := (true, "b1cc60199eabcd5f5f616d8c0166b3445f6682326827d7976d01aad9c9caadb8"), looks := false }, kinds := [], alts := [], laidByText := true, laidKinds := [.data, .pinned], laidTests := true, laidLooks := .later }
def LayoutTokensUptoCardSaid : Prop := Claim7.holds Tryd.pinned (.plain (OpenSpec.upto layoutTokensSpec)) layoutTokensUptoCard

/-- THE SECOND FORM's CARD OF 'parllaw2.InlineSays'. -/
def inlineSaysUptoCard : Claim7 := { stood := { row := inlineSaysUptoRow, standIns := [], harness := (true, "b1cc60199eabcd5f5f616d8c0166b3445f6682326827d7976d01aad9c9caadb8"), looks := false }, kinds := [], alts := [], laidByText := true, laidKinds := [.data, .data, .data], laidTests := true, laidLooks := .later }
def InlineSaysUptoCardSaid : Prop := Claim7.holds Tryd.pinned (.plain (OpenSpec.upto inlineSaysSpec)) inlineSaysUptoCard

/-- THE SECOND FORM's CARD OF 'parllaw2.InlineMaps'. -/
def inlineMapsUptoCard : Claim7 := { stood := { row := inlineMapsUptoRow, standIns := [], harness := (true, "b1cc60199eabcd5f5f616d8c0166b3445f6682326827d7976d01aad9c9caadb8"), looks := false }, kinds := [], alts := [], laidByText := true, laidKinds := [.data, .data, .data], laidTests := true, laidLooks := .later }
def InlineMapsUptoCardSaid : Prop := Claim7.holds Tryd.pinned (.plain (OpenSpec.upto inlineMapsSpec)) inlineMapsUptoCard

/-- THE SECOND FORM's CARD OF 'parllaw2.LeftrecMaps'. -/
def leftrecMapsUptoCard : Claim7 := { stood := { row := leftrecMapsUptoRow, standIns := [], harness := (true, "b1cc60199eabcd5f5f616d8c0166b3445f6682326827d7976d01aad9c9caadb8"), looks := false }, kinds := [], alts := [], laidByText := true, laidKinds := [.data, .data, .data], laidTests := true, laidLooks := .later }
def LeftrecMapsUptoCardSaid : Prop := Claim7.holds Tryd.pinned (.plain (OpenSpec.upto leftrecMapsSpec)) leftrecMapsUptoCard

/-- THE SECOND FORM's CARD OF 'parllaw2.NormalSays'. -/
def normalSaysUptoCard : Claim7 := { stood := { row := normalSaysUptoRow, standIns := [], harness := (true, "b1cc60199eabcd5f5f616d8c0166b3445f6682326827d7976d01aad9c9caadb8"), looks := false }, kinds := [], alts := [], laidByText := true, laidKinds := [.data, .data, .data], laidTests := true, laidLooks := .later }
def NormalSaysUptoCardSaid : Prop := Claim7.holds Tryd.pinned (.plain (OpenSpec.upto normalSaysSpec)) normalSaysUptoCard
end Rows
end Go.Proofs.YtecofoilghdedaaDoor
