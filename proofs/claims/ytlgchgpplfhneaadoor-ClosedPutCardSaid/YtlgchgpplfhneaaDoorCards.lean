/-
  DERIVED. GIVEN WITH THE SEED: THE CARDS: each row of YtlgchgpplfhneaaDoorRows.lean that lists a variable, with what it lists TIED to the program's text (the seventh form; the later family's looks); each row that meets fmt, with fmt's text TOLD by the authors' own Lean function (tested against real Go, not proved from fmt's source: count such statements apart). THE CARD IS WHAT COUNTS. Prove the row's statement (the work); the ties are given (YtlgchgpplfhneaaDoorTie.lean); close each card by the builder's one call (the guide's Derived/Test/ToyasCard.lean, 'card_holds'). Laid BY PROGRAM, IN A SANDBOX (cutbox-door.mjs). By AI agents, Wed Nov 11 2026. No macro, syntax, notation, axiom, sorry.
-/
import Derived.Test.YtlgchgpplfhneaaDoorRows
import GoSem.ClaimSeven
namespace Go.Proofs.YtlgchgpplfhneaaDoor
namespace Rows

/-- THE TIED CARD OF 'parlkeep2.ClosedPut'. -/
def closedPutCard : Claim7 := { stood := { row := closedPutRow, standIns := [], harness := (true, "d1ddb582fd62693b0f0822fb41b83ebfa770a0a67847d61776bc091cad5301cc"), looks := false }, kinds := [], alts := [], laidByText := true, laidKinds := [.data], laidTests := true, laidLooks := .later }
def ClosedPutCardSaid : Prop := Claim7.holds Tryd.pinned (.plain (OpenSpec.ofChange closedPutSpec)) closedPutCard

/-- THE TIED CARD OF 'parlkeep2.UsefulLeastWords'. -/
def usefulLeastWordsCard : Claim7 := { stood := { row := usefulLeastWordsRow, standIns := [], harness := (true, "d1ddb582fd62693b0f0822fb41b83ebfa770a0a67847d61776bc091cad5301cc"), looks := false }, kinds := [], alts := [], laidByText := true, laidKinds := [.data], laidTests := true, laidLooks := .later }
def UsefulLeastWordsCardSaid : Prop := Claim7.holds Tryd.pinned (.plain (OpenSpec.ofChange usefulLeastWordsSpec)) usefulLeastWordsCard

/-- THE SECOND FORM's CARD OF 'parlkeep2.ClosedPut'. -/
def closedPutUptoCard : Claim7 := { stood := { row := closedPutUptoRow, standIns := [], harness := (true, "d1ddb582fd62693b0f0822fb41b83ebfa770a0a67847d61776bc091cad5301cc"), looks := false }, kinds := [], alts := [], laidByText := true, laidKinds := [.data], laidTests := true, laidLooks := .later }
def ClosedPutUptoCardSaid : Prop := Claim7.holds Tryd.pinned (.plain (OpenSpec.upto closedPutSpec)) closedPutUptoCard

/-- THE SECOND FORM's CARD OF 'parlkeep2.UsefulLeastWords'. -/
def usefulLeastWordsUptoCard : Claim7 := { stood := { row := usefulLeastWordsUptoRow, standIns := [], harness := (true, "d1ddb582fd62693b0f0822fb41b83ebfa770a0a67847d61776bc091cad5301cc"), looks := false }, kinds := [], alts := [], laidByText := true, laidKinds := [.data], laidTests := true, laidLooks := .later }
def UsefulLeastWordsUptoCardSaid : Prop := Claim7.holds Tryd.pinned (.plain (OpenSpec.upto usefulLeastWordsSpec)) usefulLeastWordsUptoCard
end Rows
end Go.Proofs.YtlgchgpplfhneaaDoor
