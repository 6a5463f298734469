/-
  DERIVED. GIVEN WITH THE SEED: THE CARDS: each row of YtlbhaegdcpacpaaDoorRows.lean that lists a variable, with what it lists TIED to the program's text (the seventh form; the later family's looks); each row that meets fmt, with fmt's text TOLD by the authors' own Lean function (tested against real Go, not proved from fmt's source: count such statements apart). THE CARD IS WHAT COUNTS. Prove the row's statement (the work); the ties are given (YtlbhaegdcpacpaaDoorTie.lean); close each card by the builder's one call (the guide's Derived/Test/ToyasCard.lean, 'card_holds'). Laid BY PROGRAM, IN A SANDBOX (cutbox-door.mjs). By AI agents, Wed Nov 11 2026. No macro, syntax, notation, axiom, sorry.
-/
import Derived.Test.YtlbhaegdcpacpaaDoorRows
import GoSem.ClaimSeven
namespace Go.Proofs.YtlbhaegdcpacpaaDoor
namespace Rows

/-- THE TIED CARD OF 'parllaw2.GramTrees'. -/
def gramTreesCard : Claim7 := { stood := { row := gramTreesRow, standIns := [], harness := (true, "b17b1bb440d5a99a0ec011f97374c6b722446dcc1bcea2369f143933475ed3cd"), looks := false }, kinds := [], alts := [], laidByText := true, laidKinds := [.data, .data, .data], laidTests := true, laidLooks := .later }
def GramTreesCardSaid : Prop := Claim7.holds Tryd.pinned (.plain (OpenSpec.ofChange gramTreesSpec)) gramTreesCard

/-- THE TIED CARD OF 'parllaw2.FirstSays'. -/
def firstSaysCard : Claim7 := { stood := { row := firstSaysRow, standIns := [], harness := (true, "b17b1bb440d5a99a0ec011f97374c6b722446dcc1bcea2369f143933475ed3cd"), looks := false }, kinds := [], alts := [], laidByText := true, laidKinds := [.data, .data, .data], laidTests := true, laidLooks := .later }
def FirstSaysCardSaid : Prop := Claim7.holds Tryd.pinned (.plain (OpenSpec.ofChange firstSaysSpec)) firstSaysCard

/-- THE TIED CARD OF 'parllaw2.UsefulTrims'. -/
def usefulTrimsCard : Claim7 := { stood := { row := usefulTrimsRow, standIns := [], harness := (true, "b17b1bb440d5a99a0ec011f97374c6b722446dcc1bcea2369f143933475ed3cd"), looks := false }, kinds := [], alts := [], laidByText := true, laidKinds := [.data, .data, .data], laidTests := true, laidLooks := .later }
def UsefulTrimsCardSaid : Prop := Claim7.holds Tryd.pinned (.plain (OpenSpec.ofChange usefulTrimsSpec)) usefulTrimsCard

/-- THE TIED CARD OF 'parllaw2.UsefulSays'. -/
def usefulSaysCard : Claim7 := { stood := { row := usefulSaysRow, standIns := [], harness := (true, "b17b1bb440d5a99a0ec011f97374c6b722446dcc1bcea2369f143933475ed3cd"), looks := false }, kinds := [], alts := [], laidByText := true, laidKinds := [.data, .data, .data], laidTests := true, laidLooks := .later }
def UsefulSaysCardSaid : Prop := Claim7.holds Tryd.pinned (.plain (OpenSpec.ofChange usefulSaysSpec)) usefulSaysCard

/-- THE TIED CARD OF 'parllaw2.FollowSays'. -/
def followSaysCard : Claim7 := { stood := { row := followSaysRow, standIns := [], harness := (true, "b17b1bb440d5a99a0ec011f97374c6b722446dcc1bcea2369f143933475ed3cd"), looks := false }, kinds := [], alts := [], laidByText := true, laidKinds := [.data, .data, .data], laidTests := true, laidLooks := .later }
def FollowSaysCardSaid : Prop := Claim7.holds Tryd.pinned (.plain (OpenSpec.ofChange followSaysSpec)) followSaysCard

/-- THE SECOND FORM's CARD OF 'parllaw2.GramTrees'. -/
def gramTreesUptoCard : Claim7 := { stood := { row := gramTreesUptoRow, standIns := [], harness := (true, "b17b1bb440d5a99a0ec011f97374c6b722446dcc1bcea2369f143933475ed3cd"), looks := false }, kinds := [], alts := [], laidByText := true, laidKinds := [.data, .data, .data], laidTests := true, laidLooks := .later }
def GramTreesUptoCardSaid : Prop := Claim7.holds Tryd.pinned (.plain (OpenSpec.upto gramTreesSpec)) gramTreesUptoCard

/-- THE SECOND FORM's CARD OF 'parllaw2.FirstSays'. -/
def firstSaysUptoCard : Claim7 := { stood := { row := firstSaysUptoRow, standIns := [], harness := (true, "b17b1bb440d5a99a0ec011f97374c6b722446dcc1bcea2369f143933475ed3cd"), looks := false }, kinds := [], alts := [], laidByText := true, laidKinds := [.data, .data, .data], laidTests := true, laidLooks := .later }
def FirstSaysUptoCardSaid : Prop := Claim7.holds Tryd.pinned (.plain (OpenSpec.upto firstSaysSpec)) firstSaysUptoCard

/-- THE SECOND FORM's CARD OF 'parllaw2.UsefulTrims'. -/
def usefulTrimsUptoCard : Claim7 := { stood := { row := usefulTrimsUptoRow, standIns := [], harness := (true, "b17b1bb440d5a99a0ec011f97374c6b722446dcc1bcea2369f143933475ed3cd"), looks := false }, kinds := [], alts := [], laidByText := true, laidKinds := [.data, .data, .data], laidTests := true, laidLooks := .later }
def UsefulTrimsUptoCardSaid : Prop := Claim7.holds Tryd.pinned (.plain (OpenSpec.upto usefulTrimsSpec)) usefulTrimsUptoCard

/-- THE SECOND FORM's CARD OF 'parllaw2.UsefulSays'. -/
def usefulSaysUptoCard : Claim7 := { stood := { row := usefulSaysUptoRow, standIns := [], harness := (true, "b17b1bb440d5a99a0ec011f97374c6b722446dcc1bcea2369f143933475ed3cd"), looks := false }, kinds := [], alts := [], laidByText := true, laidKinds := [.data, .data, .data], laidTests := true, laidLooks := .later }
def UsefulSaysUptoCardSaid : Prop := Claim7.holds Tryd.pinned (.plain (OpenSpec.upto usefulSaysSpec)) usefulSaysUptoCard

/-- THE SECOND FORM's CARD OF 'parllaw2.FollowSays'. -/
def followSaysUptoCard : Claim7 := { stood := { row := followSaysUptoRow, standIns := [], harness := (true, "b17b1bb440d5a99a0ec011f97374c6b722446dcc1bcea2369f143933475ed3cd"), looks := false }, kinds := [], alts := [], laidByText := true, laidKinds := [.data, .data, .data], laidTests := true, laidLooks := .later }
def FollowSaysUptoCardSaid : Prop := Claim7.holds Tryd.pinned (.plain (OpenSpec.upto followSaysSpec)) followSaysUptoCard
end Rows
end Go.Proofs.YtlbhaegdcpacpaaDoor
