/-
  DERIVED. GIVEN WITH THE SEED: THE CARDS: each row of YtbboceklkjfimaaDoorRows.lean that lists a variable, with what it lists TIED to the program's text (the seventh form; the later family's looks); each row that meets fmt, with fmt's text TOLD by the authors' own Lean function (tested against real Go, not proved from fmt's source: count such statements apart). THE CARD IS WHAT COUNTS. Prove the row's statement (the work); the ties are given (YtbboceklkjfimaaDoorTie.lean); close each card by the builder's one call (the guide's Derived/Test/ToyasCard.lean, 'card_holds'). Laid BY PROGRAM, IN A SANDBOX (cutbox-door.mjs). By AI agents, Wed Nov 11 2026. No macro, syntax, notation, axiom, sorry.
-/
import Derived.Test.YtbboceklkjfimaaDoorRows
import GoSem.ClaimSeven
namespace Go.Proofs.YtbboceklkjfimaaDoor
namespace Rows

/-- THE TIED CARD OF 'parllaw2.LayoutTokens'. -/
def layoutTokensCard : Claim7 := { stood := { row := layoutTokensRow, standIns := [], harness := (true, "03f499194b1a0cf0194abcf48daed0d79d46fd5fa6c1ff9499cfc028771943cc"), looks := false }, kinds := [], alts := [], laidByText := true, laidKinds := [.data, .pinned], laidTests := true, laidLooks := .later }
def LayoutTokensCardSaid : Prop := Claim7.holds Tryd.pinned (.plain (OpenSpec.ofChange layoutTokensSpec)) layoutTokensCard

/-- THE TIED CARD OF 'parllaw2.FirstSays'. -/
def firstSaysCard : Claim7 := { stood := { row := firstSaysRow, standIns := [], harness := (true, "03f499194b1a0cf0194abcf48daed0d79d46fd5fa6c1ff9499cfc028771943cc"), looks := false }, kinds := [], alts := [], laidByText := true, laidKinds := [.data, .data, .data], laidTests := true, laidLooks := .later }
def FirstSaysCardSaid : Prop := Claim7.holds Tryd.pinned (.plain (OpenSpec.ofChange firstSaysSpec)) firstSaysCard

/-- THE TIED CARD OF 'parllaw2.UsefulTrims'. -/
def usefulTrimsCard : Claim7 := { stood := { row := usefulTrimsRow, standIns := [], harness := (true, "03f499194b1a0cf0194abcf48daed0d79d46fd5fa6c1ff9499cfc028771943cc"), looks := false }, kinds := [], alts := [], laidByText := true, laidKinds := [.data, .data, .data], laidTests := true, laidLooks := .later }
def UsefulTrimsCardSaid : Prop := Claim7.holds Tryd.pinned (.plain (OpenSpec.ofChange usefulTrimsSpec)) usefulTrimsCard

/-- THE TIED CARD OF 'parllaw2.UsefulSays'. -/
def usefulSaysCard : Claim7 := { stood := { row := usefulSaysRow, standIns := [], harness := (true, "03f499194b1a0cf0194abcf48daed0d79d46fd5fa6c1ff9499cfc028771943cc"), looks := false }, kinds := [], alts := [], laidByText := true, laidKinds := [.data, .data, .data], laidTests := true, laidLooks := .later }
def UsefulSaysCardSaid : Prop := Claim7.holds Tryd.pinned (.plain (OpenSpec.ofChange usefulSaysSpec)) usefulSaysCard

/-- THE TIED CARD OF 'parllaw2.FollowSays'. -/
def followSaysCard : Claim7 := { stood := { row := followSaysRow, standIns := [], harness := (true, "03f499194b1a0cf0194abcf48daed0d79d46fd5fa6c1ff9499cfc028771943cc"), looks := false }, kinds := [], alts := [], laidByText := true, laidKinds := [.data, .data, .data], laidTests := true, laidLooks := .later }
def FollowSaysCardSaid : Prop := Claim7.holds Tryd.pinned (.plain (OpenSpec.ofChange followSaysSpec)) followSaysCard

/-- THE TIED CARD OF 'parllaw2.CycleSays'. -/
def cycleSaysCard : Claim7 := { stood := { row := cycleSaysRow, standIns := [], harness := (true, "03f499194b1a0cf0194abcf48daed0d79d46fd5fa6c1ff9499cfc028771943cc"), looks := false }, kinds := [], alts := [], laidByText := true, laidKinds := [.data, .data, .data], laidTests := true, laidLooks := .later }
def CycleSaysCardSaid : Prop := Claim7.holds Tryd.pinned (.plain (OpenSpec.ofChange cycleSaysSpec)) cycleSaysCard

/-- THE SECOND FORM's CARD OF 'parllaw2.LayoutTokens'. -/
def layoutTokensUptoCard : Claim7 := { stood := { row := layoutTokensUptoRow, standIns := [], harness := (true, "03f499194b1a0cf0194abcf48daed0d79d46fd5fa6c1ff9499cfc028771943cc"), looks := false }, kinds := [], alts := [], laidByText := true, laidKinds := [.data, .pinned], laidTests := true, laidLooks := .later }
def LayoutTokensUptoCardSaid : Prop := Claim7.holds Tryd.pinned (.plain (OpenSpec.upto layoutTokensSpec)) layoutTokensUptoCard

/-- THE SECOND FORM's CARD OF 'parllaw2.FirstSays'. -/
def firstSaysUptoCard : Claim7 := { stood := { row := firstSaysUptoRow, standIns := [], harness := (true, "03f499194b1a0cf0194abcf48daed0d79d46fd5fa6c1ff9499cfc028771943cc"), looks := false }, kinds := [], alts := [], laidByText := true, laidKinds := [.data, .data, .data], laidTests := true, laidLooks := .later }
def FirstSaysUptoCardSaid : Prop := Claim7.holds Tryd.pinned (.plain (OpenSpec.upto firstSaysSpec)) firstSaysUptoCard

/-- THE SECOND FORM's CARD OF 'parllaw2.UsefulTrims'. -/
def usefulTrimsUptoCard : Claim7 := { stood := { row := usefulTrimsUptoRow, standIns := [], harness := (true, "03f499194b1a0cf0194abcf48daed0d79d46fd5fa6c1ff9499cfc028771943cc"), looks := false }, kinds := [], alts := [], laidByText := true, laidKinds := [.data, .data, .data], laidTests := true, laidLooks := .later }
def UsefulTrimsUptoCardSaid : Prop := Claim7.holds Tryd.pinned (.plain (OpenSpec.upto usefulTrimsSpec)) usefulTrimsUptoCard

/-- THE SECOND FORM's CARD OF 'parllaw2.UsefulSays'. -/
def usefulSaysUptoCard : Claim7 := { stood := { row := usefulSaysUptoRow, standIns := [], harness := (true, "03f499194b1a0cf0194abcf48daed0d79d46fd5fa6c1ff9499cfc028771943cc"), looks := false }, kinds := [], alts := [], laidByText := true, laidKinds := [.data, .data, .data], laidTests := true, laidLooks := .later }
def UsefulSaysUptoCardSaid : Prop := Claim7.holds Tryd.pinned (.plain (OpenSpec.upto usefulSaysSpec)) usefulSaysUptoCard

/-- THE SECOND FORM's CARD OF 'parllaw2.FollowSays'. -/
def followSaysUptoCard : Claim7 := { stood := { row := followSaysUptoRow, standIns := [], harness := (true, "03f499194b1a0cf0194abcf48daed0d79d46fd5fa6c1ff9499cfc028771943cc"), looks := false }, kinds := [], alts := [], laidByText := true, laidKinds := [.data, .data, .data], laidTests := true, laidLooks := .later }
def FollowSaysUptoCardSaid : Prop := Claim7.holds Tryd.pinned (.plain (OpenSpec.upto followSaysSpec)) followSaysUptoCard

/-- THE SECOND FORM's CARD OF 'parllaw2.CycleSays'. -/
def cycleSaysUptoCard : Claim7 := { stood := { row := cycleSaysUptoRow, standIns := [], harness := (true, "03f499194b1a0cf0194abcf48daed0d79d46fd5fa6c1ff9499cfc028771943cc"), looks := false }, kinds := [], alts := [], laidByText := true, laidKinds := [.data, .data, .data], laidTests := true, laidLooks := .later }
def CycleSaysUptoCardSaid : Prop := Claim7.holds Tryd.pinned (.plain (OpenSpec.upto cycleSaysSpec)) cycleSaysUptoCard
end Rows
end Go.Proofs.YtbboceklkjfimaaDoor
