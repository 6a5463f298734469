/-
  DERIVED. GIVEN WITH THE SEED: THE CARDS: each row of YtnlpeiffbnlncaaDoorRows.lean that lists a variable, with what it lists TIED to the program's text (the seventh form; the later family's looks); each row that meets fmt, with fmt's text TOLD by the authors' own Lean function (tested against real Go, not proved from fmt's source: count such statements apart). THE CARD IS WHAT COUNTS. Prove the row's statement (the work); the ties are given (YtnlpeiffbnlncaaDoorTie.lean); close each card by the builder's one call (the guide's Derived/Test/ToyasCard.lean, 'card_holds'). Laid BY PROGRAM, IN A SANDBOX (cutbox-door.mjs). By AI agents, Wed Nov 11 2026. No macro, syntax, notation, axiom, sorry.
-/
import Derived.Test.YtnlpeiffbnlncaaDoorRows
import GoSem.ClaimSeven
namespace Go.Proofs.YtnlpeiffbnlncaaDoor
namespace Rows

/-- THE TIED CARD OF 'parlkeep2.ClosedUnion'. -/
def closedUnionCard : Claim7 := { stood := { row := closedUnionRow, standIns := [], harness := (true, "66301eb10ccb14411d360d24c7857ac4fcd60f0221ac62ede096f3912ab7b887"), looks := true }, kinds := [], alts := [], laidByText := true, laidKinds := [.data], laidTests := true, laidLooks := .later }
def ClosedUnionCardSaid : Prop := Claim7.holds Tryd.pinned (.plain (OpenSpec.ofChange closedUnionSpec)) closedUnionCard

/-- THE TIED CARD OF 'parlkeep2.GramTreesHaveMeaning'. -/
def gramTreesHaveMeaningCard : Claim7 := { stood := { row := gramTreesHaveMeaningRow, standIns := [], harness := (true, "66301eb10ccb14411d360d24c7857ac4fcd60f0221ac62ede096f3912ab7b887"), looks := true }, kinds := [], alts := [], laidByText := true, laidKinds := [.data], laidTests := true, laidLooks := .later }
def GramTreesHaveMeaningCardSaid : Prop := Claim7.holds Tryd.pinned (.plain (OpenSpec.ofChange gramTreesHaveMeaningSpec)) gramTreesHaveMeaningCard

/-- THE TIED CARD OF 'parlkeep2.UsefulWords'. -/
def usefulWordsCard : Claim7 := { stood := { row := usefulWordsRow, standIns := [], harness := (true, "66301eb10ccb14411d360d24c7857ac4fcd60f0221ac62ede096f3912ab7b887"), looks := true }, kinds := [], alts := [], laidByText := true, laidKinds := [.data], laidTests := true, laidLooks := .later }
def UsefulWordsCardSaid : Prop := Claim7.holds Tryd.pinned (.plain (OpenSpec.ofChange usefulWordsSpec)) usefulWordsCard

/-- THE TIED CARD OF 'parlkeep2.ClosedReverse'. -/
def closedReverseCard : Claim7 := { stood := { row := closedReverseRow, standIns := [], harness := (true, "66301eb10ccb14411d360d24c7857ac4fcd60f0221ac62ede096f3912ab7b887"), looks := true }, kinds := [], alts := [], laidByText := true, laidKinds := [.data], laidTests := true, laidLooks := .later }
def ClosedReverseCardSaid : Prop := Claim7.holds Tryd.pinned (.plain (OpenSpec.ofChange closedReverseSpec)) closedReverseCard

/-- THE TIED CARD OF 'parlkeep2.CycleMany'. -/
def cycleManyCard : Claim7 := { stood := { row := cycleManyRow, standIns := [], harness := (true, "66301eb10ccb14411d360d24c7857ac4fcd60f0221ac62ede096f3912ab7b887"), looks := true }, kinds := [], alts := [], laidByText := true, laidKinds := [.data], laidTests := true, laidLooks := .later }
def CycleManyCardSaid : Prop := Claim7.holds Tryd.pinned (.plain (OpenSpec.ofChange cycleManySpec)) cycleManyCard

/-- THE TIED CARD OF 'parlkeep2.PrecUnambiguous'. -/
def precUnambiguousCard : Claim7 := { stood := { row := precUnambiguousRow, standIns := [], harness := (true, "66301eb10ccb14411d360d24c7857ac4fcd60f0221ac62ede096f3912ab7b887"), looks := true }, kinds := [], alts := [], laidByText := true, laidKinds := [.data], laidTests := true, laidLooks := .later }
def PrecUnambiguousCardSaid : Prop := Claim7.holds Tryd.pinned (.plain (OpenSpec.ofChange precUnambiguousSpec)) precUnambiguousCard

/-- THE SECOND FORM's CARD OF 'parlkeep2.ClosedUnion'. -/
def closedUnionUptoCard : Claim7 := { stood := { row := closedUnionUptoRow, standIns := [], harness := (true, "66301eb10ccb14411d360d24c7857ac4fcd60f0221ac62ede096f3912ab7b887"), looks := true }, kinds := [], alts := [], laidByText := true, laidKinds := [.data], laidTests := true, laidLooks := .later }
def ClosedUnionUptoCardSaid : Prop := Claim7.holds Tryd.pinned (.plain (OpenSpec.upto closedUnionSpec)) closedUnionUptoCard

/-- THE SECOND FORM's CARD OF 'parlkeep2.GramTreesHaveMeaning'. -/
def gramTreesHaveMeaningUptoCard : Claim7 := { stood := { row := gramTreesHaveMeaningUptoRow, standIns := [], harness := (true, "66301eb10ccb14411d360d24c7857ac4fcd60f0221ac62ede096f3912ab7b887"), looks := true }, kinds := [], alts := [], laidByText := true, laidKinds := [.data], laidTests := true, laidLooks := .later }
def GramTreesHaveMeaningUptoCardSaid : Prop := Claim7.holds Tryd.pinned (.plain (OpenSpec.upto gramTreesHaveMeaningSpec)) gramTreesHaveMeaningUptoCard

/-- THE SECOND FORM's CARD OF 'parlkeep2.UsefulWords'. -/
def usefulWordsUptoCard : Claim7 := { stood := { row := usefulWordsUptoRow, standIns := [], harness := (true, "66301eb10ccb14411d360d24c7857ac4fcd60f0221ac62ede096f3912ab7b887"), looks := true }, kinds := [], alts := [], laidByText := true, laidKinds := [.data], laidTests := true, laidLooks := .later }
def UsefulWordsUptoCardSaid : Prop := Claim7.holds Tryd.pinned (.plain (OpenSpec.upto usefulWordsSpec)) usefulWordsUptoCard

/-- THE SECOND FORM's CARD OF 'parlkeep2.ClosedReverse'. -/
def closedReverseUptoCard : Claim7 := { stood := { row := closedReverseUptoRow, standIns := [], harness := (true, "66301eb10ccb14411d360d24c7857ac4fcd60f0221ac62ede096f3912ab7b887"), looks := true }, kinds := [], alts := [], laidByText := true, laidKinds := [.data], laidTests := true, laidLooks := .later }
def ClosedReverseUptoCardSaid : Prop := Claim7.holds Tryd.pinned (.plain (OpenSpec.upto closedReverseSpec)) closedReverseUptoCard

/-- THE SECOND FORM's CARD OF 'parlkeep2.CycleMany'. -/
def cycleManyUptoCard : Claim7 := { stood := { row := cycleManyUptoRow, standIns := [], harness := (true, "66301eb10ccb14411d360d24c7857ac4fcd60f0221ac62ede096f3912ab7b887"), looks := true }, kinds := [], alts := [], laidByText := true, laidKinds := [.data], laidTests := true, laidLooks := .later }
def CycleManyUptoCardSaid : Prop := Claim7.holds Tryd.pinned (.plain (OpenSpec.upto cycleManySpec)) cycleManyUptoCard

/-- THE SECOND FORM's CARD OF 'parlkeep2.PrecUnambiguous'. -/
def precUnambiguousUptoCard : Claim7 := { stood := { row := precUnambiguousUptoRow, standIns := [], harness := (true, "66301eb10ccb14411d360d24c7857ac4fcd60f0221ac62ede096f3912ab7b887"), looks := true }, kinds := [], alts := [], laidByText := true, laidKinds := [.data], laidTests := true, laidLooks := .later }
def PrecUnambiguousUptoCardSaid : Prop := Claim7.holds Tryd.pinned (.plain (OpenSpec.upto precUnambiguousSpec)) precUnambiguousUptoCard
end Rows
end Go.Proofs.YtnlpeiffbnlncaaDoor
