/-
  DERIVED. GIVEN WITH THE SEED: THE CARDS: each row of YtpkfalhpkkponaaDoorRows.lean that lists a variable, with what it lists TIED to the program's text (the seventh form; the later family's looks); each row that meets fmt, with fmt's text TOLD by the authors' own Lean function (tested against real Go, not proved from fmt's source: count such statements apart). THE CARD IS WHAT COUNTS. Prove the row's statement (the work); the ties are given (YtpkfalhpkkponaaDoorTie.lean); close each card by the builder's one call (the guide's Derived/Test/ToyasCard.lean, 'card_holds'). Laid BY PROGRAM, IN A SANDBOX (cutbox-door.mjs). By AI agents, Wed Nov 11 2026. No macro, syntax, notation, axiom, sorry.
-/
import Derived.Test.YtpkfalhpkkponaaDoorRows
import GoSem.ClaimSeven
namespace Go.Proofs.YtpkfalhpkkponaaDoor
namespace Rows

/-- THE TIED CARD OF 'parlkeep2.ClosedStar'. -/
def closedStarCard : Claim7 := { stood := { row := closedStarRow, standIns := [], harness := (true, "7170b574e8c7f8e099f7ebf91033e7416897ee2c97ae3026000048f87b7c72fd"), looks := false }, kinds := [], alts := [], laidByText := true, laidKinds := [.data], laidTests := true, laidLooks := .later }
def ClosedStarCardSaid : Prop := Claim7.holds Tryd.pinned (.plain (OpenSpec.ofChange closedStarSpec)) closedStarCard

/-- THE TIED CARD OF 'parlkeep2.ClosedConcat'. -/
def closedConcatCard : Claim7 := { stood := { row := closedConcatRow, standIns := [], harness := (true, "7170b574e8c7f8e099f7ebf91033e7416897ee2c97ae3026000048f87b7c72fd"), looks := false }, kinds := [], alts := [], laidByText := true, laidKinds := [.data], laidTests := true, laidLooks := .later }
def ClosedConcatCardSaid : Prop := Claim7.holds Tryd.pinned (.plain (OpenSpec.ofChange closedConcatSpec)) closedConcatCard

/-- THE TIED CARD OF 'parlkeep2.NormalEmpty'. -/
def normalEmptyCard : Claim7 := { stood := { row := normalEmptyRow, standIns := [], harness := (true, "7170b574e8c7f8e099f7ebf91033e7416897ee2c97ae3026000048f87b7c72fd"), looks := false }, kinds := [], alts := [], laidByText := true, laidKinds := [.data], laidTests := true, laidLooks := .later }
def NormalEmptyCardSaid : Prop := Claim7.holds Tryd.pinned (.plain (OpenSpec.ofChange normalEmptySpec)) normalEmptyCard

/-- THE TIED CARD OF 'parllaw2.LayoutTokens'. -/
def layoutTokensCard : Claim7 := { stood := { row := layoutTokensRow, standIns := [], harness := (true, "7170b574e8c7f8e099f7ebf91033e7416897ee2c97ae3026000048f87b7c72fd"), looks := false }, kinds := [], alts := [], laidByText := true, laidKinds := [.data, .pinned], laidTests := true, laidLooks := .later }
def LayoutTokensCardSaid : Prop := Claim7.holds Tryd.pinned (.plain (OpenSpec.ofChange layoutTokensSpec)) layoutTokensCard

/-- THE TIED CARD OF 'parllaw2.UsefulSays'. -/
def usefulSaysCard : Claim7 := { stood := { row := usefulSaysRow, standIns := [], harness := (true, "7170b574e8c7f8e099f7ebf91033e7416897ee2c97ae3026000048f87b7c72fd"), looks := false }, kinds := [], alts := [], laidByText := true, laidKinds := [.data, .data, .data], laidTests := true, laidLooks := .later }
def UsefulSaysCardSaid : Prop := Claim7.holds Tryd.pinned (.plain (OpenSpec.ofChange usefulSaysSpec)) usefulSaysCard

/-- THE TIED CARD OF 'parllaw2.CycleSays'. -/
def cycleSaysCard : Claim7 := { stood := { row := cycleSaysRow, standIns := [], harness := (true, "7170b574e8c7f8e099f7ebf91033e7416897ee2c97ae3026000048f87b7c72fd"), looks := false }, kinds := [], alts := [], laidByText := true, laidKinds := [.data, .data, .data], laidTests := true, laidLooks := .later }
def CycleSaysCardSaid : Prop := Claim7.holds Tryd.pinned (.plain (OpenSpec.ofChange cycleSaysSpec)) cycleSaysCard

/-- THE SECOND FORM's CARD OF 'parlkeep2.ClosedStar'. -/
def closedStarUptoCard : Claim7 := { stood := { row := closedStarUptoRow, standIns := [], harness := (true, "7170b574e8c7f8e099f7ebf91033e7416897ee2c97ae3026000048f87b7c72fd"), looks := false }, kinds := [], alts := [], laidByText := true, laidKinds := [.data], laidTests := true, laidLooks := .later }
def ClosedStarUptoCardSaid : Prop := Claim7.holds Tryd.pinned (.plain (OpenSpec.upto closedStarSpec)) closedStarUptoCard

/-- THE SECOND FORM's CARD OF 'parlkeep2.ClosedConcat'. -/
def closedConcatUptoCard : Claim7 := { stood := { row := closedConcatUptoRow, standIns := [], harness := (true, "7170b574e8c7f8e099f7ebf91033e7416897ee2c97ae3026000048f87b7c72fd"), looks := false }, kinds := [], alts := [], laidByText := true, laidKinds := [.data], laidTests := true, laidLooks := .later }
def ClosedConcatUptoCardSaid : Prop := Claim7.holds Tryd.pinned (.plain (OpenSpec.upto closedConcatSpec)) closedConcatUptoCard

/-- THE SECOND FORM's CARD OF 'parlkeep2.NormalEmpty'. -/
def normalEmptyUptoCard : Claim7 := { stood := { row := normalEmptyUptoRow, standIns := [], harness := (true, "7170b574e8c7f8e099f7ebf91033e7416897ee2c97ae3026000048f87b7c72fd"), looks := false }, kinds := [], alts := [], laidByText := true, laidKinds := [.data], laidTests := true, laidLooks := .later }
def NormalEmptyUptoCardSaid : Prop := Claim7.holds Tryd.pinned (.plain (OpenSpec.upto normalEmptySpec)) normalEmptyUptoCard

/-- THE SECOND FORM's CARD OF 'parllaw2.LayoutTokens'. -/
def layoutTokensUptoCard : Claim7 := { stood := { row := layoutTokensUptoRow, standIns := [], harness := (true, "7170b574e8c7f8e099f7ebf91033e7416897ee2c97ae3026000048f87b7c72fd"), looks := false }, kinds := [], alts := [], laidByText := true, laidKinds := [.data, .pinned], laidTests := true, laidLooks := .later }
def LayoutTokensUptoCardSaid : Prop := Claim7.holds Tryd.pinned (.plain (OpenSpec.upto layoutTokensSpec)) layoutTokensUptoCard

/-- THE SECOND FORM's CARD OF 'parllaw2.UsefulSays'. -/
def usefulSaysUptoCard : Claim7 := { stood := { row := usefulSaysUptoRow, standIns := [], harness := (true, "7170b574e8c7f8e099f7ebf91033e7416897ee2c97ae3026000048f87b7c72fd"), looks := false }, kinds := [], alts := [], laidByText := true, laidKinds := [.data, .data, .data], laidTests := true, laidLooks := .later }
def UsefulSaysUptoCardSaid : Prop := Claim7.holds Tryd.pinned (.plain (OpenSpec.upto usefulSaysSpec)) usefulSaysUptoCard

/-- THE SECOND FORM's CARD OF 'parllaw2.CycleSays'. -/
def cycleSaysUptoCard : Claim7 := { stood := { row := cycleSaysUptoRow, standIns := [], harness := (true, "7170b574e8c7f8e099f7ebf91033e7416897ee2c97ae3026000048f87b7c72fd"), looks := false }, kinds := [], alts := [], laidByText := true, laidKinds := [.data, .data, .data], laidTests := true, laidLooks := .later }
def CycleSaysUptoCardSaid : Prop := Claim7.holds Tryd.pinned (.plain (OpenSpec.upto cycleSaysSpec)) cycleSaysUptoCard
end Rows
end Go.Proofs.YtpkfalhpkkponaaDoor
