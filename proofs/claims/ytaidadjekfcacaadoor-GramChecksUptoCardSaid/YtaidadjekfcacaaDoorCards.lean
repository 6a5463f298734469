/-
  DERIVED. GIVEN WITH THE SEED: THE CARDS: each row of YtaidadjekfcacaaDoorRows.lean that lists a variable, with what it lists TIED to the program's text (the seventh form; the later family's looks); each row that meets fmt, with fmt's text TOLD by the authors' own Lean function (tested against real Go, not proved from fmt's source: count such statements apart). THE CARD IS WHAT COUNTS. Prove the row's statement (the work); the ties are given (YtaidadjekfcacaaDoorTie.lean); close each card by the builder's one call (the guide's Derived/Test/ToyasCard.lean, 'card_holds'). Laid BY PROGRAM, IN A SANDBOX (cutbox-door.mjs). By AI agents, Wed Nov 11 2026. No macro, syntax, notation, axiom, sorry.
-/
import Derived.Test.YtaidadjekfcacaaDoorRows
import GoSem.ClaimSeven
namespace Go.Proofs.YtaidadjekfcacaaDoor
namespace Rows

/-- THE TIED CARD OF 'parlkeep2.NormalEmpty'. -/
def normalEmptyCard : Claim7 := { stood := { row := normalEmptyRow, standIns := [], harness := (true, "bef27d8b262d58c3d617417ea0dc09e678bf5c4a27ac3a199f4f39822f97a783"), looks := false }, kinds := [], alts := [], laidByText := true, laidKinds := [.data], laidTests := true, laidLooks := .later }
def NormalEmptyCardSaid : Prop := Claim7.holds Tryd.pinned (.plain (OpenSpec.ofChange normalEmptySpec)) normalEmptyCard

/-- THE TIED CARD OF 'parllaw2.LayoutTokens'. -/
def layoutTokensCard : Claim7 := { stood := { row := layoutTokensRow, standIns := [], harness := (true, "bef27d8b262d58c3d617417ea0dc09e678bf5c4a27ac3a199f4f39822f97a783"), looks := false }, kinds := [], alts := [], laidByText := true, laidKinds := [.data, .pinned], laidTests := true, laidLooks := .later }
def LayoutTokensCardSaid : Prop := Claim7.holds Tryd.pinned (.plain (OpenSpec.ofChange layoutTokensSpec)) layoutTokensCard

/-- THE TIED CARD OF 'parllaw2.ClosedPuts'. -/
def closedPutsCard : Claim7 := { stood := { row := closedPutsRow, standIns := [], harness := (true, "bef27d8b262d58c3d617417ea0dc09e678bf5c4a27ac3a199f4f39822f97a783"), looks := false }, kinds := [], alts := [], laidByText := true, laidKinds := [.data, .data, .data], laidTests := true, laidLooks := .later }
def ClosedPutsCardSaid : Prop := Claim7.holds Tryd.pinned (.plain (OpenSpec.ofChange closedPutsSpec)) closedPutsCard

/-- THE TIED CARD OF 'parllaw2.LayoutLines'. -/
def layoutLinesCard : Claim7 := { stood := { row := layoutLinesRow, standIns := [], harness := (true, "bef27d8b262d58c3d617417ea0dc09e678bf5c4a27ac3a199f4f39822f97a783"), looks := false }, kinds := [], alts := [], laidByText := true, laidKinds := [.data, .pinned], laidTests := true, laidLooks := .later }
def LayoutLinesCardSaid : Prop := Claim7.holds Tryd.pinned (.plain (OpenSpec.ofChange layoutLinesSpec)) layoutLinesCard

/-- THE TIED CARD OF 'parllaw2.GramChecks'. -/
def gramChecksCard : Claim7 := { stood := { row := gramChecksRow, standIns := [], harness := (true, "bef27d8b262d58c3d617417ea0dc09e678bf5c4a27ac3a199f4f39822f97a783"), looks := false }, kinds := [], alts := [], laidByText := true, laidKinds := [.data, .data, .data], laidTests := true, laidLooks := .later }
def GramChecksCardSaid : Prop := Claim7.holds Tryd.pinned (.plain (OpenSpec.ofChange gramChecksSpec)) gramChecksCard

/-- THE TIED CARD OF 'parllaw2.NormalSays'. -/
def normalSaysCard : Claim7 := { stood := { row := normalSaysRow, standIns := [], harness := (true, "bef27d8b262d58c3d617417ea0dc09e678bf5c4a27ac3a199f4f39822f97a783"), looks := false }, kinds := [], alts := [], laidByText := true, laidKinds := [.data, .data, .data], laidTests := true, laidLooks := .later }
def NormalSaysCardSaid : Prop := Claim7.holds Tryd.pinned (.plain (OpenSpec.ofChange normalSaysSpec)) normalSaysCard

/-- THE SECOND FORM's CARD OF 'parlkeep2.NormalEmpty'. -/
def normalEmptyUptoCard : Claim7 := { stood := { row := normalEmptyUptoRow, standIns := [], harness := (true, "bef27d8b262d58c3d617417ea0dc09e678bf5c4a27ac3a199f4f39822f97a783"), looks := false }, kinds := [], alts := [], laidByText := true, laidKinds := [.data], laidTests := true, laidLooks := .later }
def NormalEmptyUptoCardSaid : Prop := Claim7.holds Tryd.pinned (.plain (OpenSpec.upto normalEmptySpec)) normalEmptyUptoCard

/-- THE SECOND FORM's CARD OF 'parllaw2.LayoutTokens'. -/
def layoutTokensUptoCard : Claim7 := { stood := { row := layoutTokensUptoRow, standIns := [], harness := (true, "bef27d8b262d58c3d617417ea0dc09e678bf5c4a27ac3a199f4f39822f97a783"), looks := false }, kinds := [], alts := [], laidByText := true, laidKinds := [.data, .pinned], laidTests := true, laidLooks := .later }
def LayoutTokensUptoCardSaid : Prop := Claim7.holds Tryd.pinned (.plain (OpenSpec.upto layoutTokensSpec)) layoutTokensUptoCard

/-- THE SECOND FORM's CARD OF 'parllaw2.ClosedPuts'. -/
def closedPutsUptoCard : Claim7 := { stood := { row := closedPutsUptoRow, standIns := [], harness := (true, "bef27d8b262d58c3d617417ea0dc09e678bf5c4a27ac3a199f4f39822f97a783"), looks := false }, kinds := [], alts := [], laidByText := true, laidKinds := [.data, .data, .data], laidTests := true, laidLooks := .later }
def ClosedPutsUptoCardSaid : Prop := Claim7.holds Tryd.pinned (.plain (OpenSpec.upto closedPutsSpec)) closedPutsUptoCard

/-- THE SECOND FORM's CARD OF 'parllaw2.LayoutLines'. -/
def layoutLinesUptoCard : Claim7 := { stood := { row := layoutLinesUptoRow, standIns := [], harness := (true, "bef27d8b262d58c3d617417ea0dc09e678bf5c4a27ac3a199f4f39822f97a783"), looks := false }, kinds := [], alts := [], laidByText := true, laidKinds := [.data, .pinned], laidTests := true, laidLooks := .later }
def LayoutLinesUptoCardSaid : Prop := Claim7.holds Tryd.pinned (.plain (OpenSpec.upto layoutLinesSpec)) layoutLinesUptoCard

/-- THE SECOND FORM's CARD OF 'parllaw2.GramChecks'. -/
def gramChecksUptoCard : Claim7 := { stood := { row := gramChecksUptoRow, standIns := [], harness := (true, "bef27d8b262d58c3d617417ea0dc09e678bf5c4a27ac3a199f4f39822f97a783"), looks := false }, kinds := [], alts := [], laidByText := true, laidKinds := [.data, .data, .data], laidTests := true, laidLooks := .later }
def GramChecksUptoCardSaid : Prop := Claim7.holds Tryd.pinned (.plain (OpenSpec.upto gramChecksSpec)) gramChecksUptoCard

/-- THE SECOND FORM's CARD OF 'parllaw2.NormalSays'. -/
def normalSaysUptoCard : Claim7 := { stood := { row := normalSaysUptoRow, standIns := [], harness := (true, "bef27d8b262d58c3d617417ea0dc09e678bf5c4a27ac3a199f4f39822f97a783"), looks := false }, kinds := [], alts := [], laidByText := true, laidKinds := [.data, .data, .data], laidTests := true, laidLooks := .later }
def NormalSaysUptoCardSaid : Prop := Claim7.holds Tryd.pinned (.plain (OpenSpec.upto normalSaysSpec)) normalSaysUptoCard
end Rows
end Go.Proofs.YtaidadjekfcacaaDoor
