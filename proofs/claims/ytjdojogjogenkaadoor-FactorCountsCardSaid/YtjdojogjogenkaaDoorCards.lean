/-
  DERIVED. GIVEN WITH THE SEED: THE CARDS: each row of YtjdojogjogenkaaDoorRows.lean that lists a variable, with what it lists TIED to the program's text (the seventh form; the later family's looks); each row that meets fmt, with fmt's text TOLD by the authors' own Lean function (tested against real Go, not proved from fmt's source: count such statements apart). THE CARD IS WHAT COUNTS. Prove the row's statement (the work); the ties are given (YtjdojogjogenkaaDoorTie.lean); close each card by the builder's one call (the guide's Derived/Test/ToyasCard.lean, 'card_holds'). Laid BY PROGRAM, IN A SANDBOX (cutbox-door.mjs). By AI agents, Wed Nov 11 2026. No macro, syntax, notation, axiom, sorry.
-/
import Derived.Test.YtjdojogjogenkaaDoorRows
import GoSem.ClaimSeven
namespace Go.Proofs.YtjdojogjogenkaaDoor
namespace Rows

/-- THE TIED CARD OF 'parllaw2.LeftrecMaps'. -/
def leftrecMapsCard : Claim7 := { stood := { row := leftrecMapsRow, standIns := [], harness := (true, "cb4f58f0afcf614487bf6169ad2fc8843c3fd82afd030a8149a691440bbed53b"), looks := true }, kinds := [], alts := [], laidByText := true, laidKinds := [.data, .data, .data], laidTests := true, laidLooks := .later }
def LeftrecMapsCardSaid : Prop := Claim7.holds Tryd.pinned (.plain (OpenSpec.ofChange leftrecMapsSpec)) leftrecMapsCard

/-- THE TIED CARD OF 'parlkeep2.FactorCounts'. -/
def factorCountsCard : Claim7 := { stood := { row := factorCountsRow, standIns := [], harness := (true, "cb4f58f0afcf614487bf6169ad2fc8843c3fd82afd030a8149a691440bbed53b"), looks := true }, kinds := [], alts := [], laidByText := true, laidKinds := [.data], laidTests := true, laidLooks := .later }
def FactorCountsCardSaid : Prop := Claim7.holds Tryd.pinned (.plain (OpenSpec.ofChange factorCountsSpec)) factorCountsCard

/-- THE TIED CARD OF 'parlkeep2.CycleMany'. -/
def cycleManyCard : Claim7 := { stood := { row := cycleManyRow, standIns := [], harness := (true, "cb4f58f0afcf614487bf6169ad2fc8843c3fd82afd030a8149a691440bbed53b"), looks := true }, kinds := [], alts := [], laidByText := true, laidKinds := [.data], laidTests := true, laidLooks := .later }
def CycleManyCardSaid : Prop := Claim7.holds Tryd.pinned (.plain (OpenSpec.ofChange cycleManySpec)) cycleManyCard

/-- THE TIED CARD OF 'parlkeep2.PrecUnambiguous'. -/
def precUnambiguousCard : Claim7 := { stood := { row := precUnambiguousRow, standIns := [], harness := (true, "cb4f58f0afcf614487bf6169ad2fc8843c3fd82afd030a8149a691440bbed53b"), looks := true }, kinds := [], alts := [], laidByText := true, laidKinds := [.data], laidTests := true, laidLooks := .later }
def PrecUnambiguousCardSaid : Prop := Claim7.holds Tryd.pinned (.plain (OpenSpec.ofChange precUnambiguousSpec)) precUnambiguousCard

/-- THE TIED CARD OF 'parlkeep2.LeftrecCounts'. -/
def leftrecCountsCard : Claim7 := { stood := { row := leftrecCountsRow, standIns := [], harness := (true, "cb4f58f0afcf614487bf6169ad2fc8843c3fd82afd030a8149a691440bbed53b"), looks := true }, kinds := [], alts := [], laidByText := true, laidKinds := [.data], laidTests := true, laidLooks := .later }
def LeftrecCountsCardSaid : Prop := Claim7.holds Tryd.pinned (.plain (OpenSpec.ofChange leftrecCountsSpec)) leftrecCountsCard

/-- THE SECOND FORM's CARD OF 'parllaw2.LeftrecMaps'. -/
def leftrecMapsUptoCard : Claim7 := { stood := { row := leftrecMapsUptoRow, standIns := [], harness := (true, "cb4f58f0afcf614487bf6169ad2fc8843c3fd82afd030a8149a691440bbed53b"), looks := true }, kinds := [], alts := [], laidByText := true, laidKinds := [.data, .data, .data], laidTests := true, laidLooks := .later }
def LeftrecMapsUptoCardSaid : Prop := Claim7.holds Tryd.pinned (.plain (OpenSpec.upto leftrecMapsSpec)) leftrecMapsUptoCard

/-- THE SECOND FORM's CARD OF 'parlkeep2.FactorCounts'. -/
def factorCountsUptoCard : Claim7 := { stood := { row := factorCountsUptoRow, standIns := [], harness := (true, "cb4f58f0afcf614487bf6169ad2fc8843c3fd82afd030a8149a691440bbed53b"), looks := true }, kinds := [], alts := [], laidByText := true, laidKinds := [.data], laidTests := true, laidLooks := .later }
def FactorCountsUptoCardSaid : Prop := Claim7.holds Tryd.pinned (.plain (OpenSpec.upto factorCountsSpec)) factorCountsUptoCard

/-- THE SECOND FORM's CARD OF 'parlkeep2.CycleMany'. -/
def cycleManyUptoCard : Claim7 := { stood := { row := cycleManyUptoRow, standIns := [], harness := (true, "cb4f58f0afcf614487bf6169ad2fc8843c3fd82afd030a8149a691440bbed53b"), looks := true }, kinds := [], alts := [], laidByText := true, laidKinds := [.data], laidTests := true, laidLooks := .later }
def CycleManyUptoCardSaid : Prop := Claim7.holds Tryd.pinned (.plain (OpenSpec.upto cycleManySpec)) cycleManyUptoCard

/-- THE SECOND FORM's CARD OF 'parlkeep2.PrecUnambiguous'. -/
def precUnambiguousUptoCard : Claim7 := { stood := { row := precUnambiguousUptoRow, standIns := [], harness := (true, "cb4f58f0afcf614487bf6169ad2fc8843c3fd82afd030a8149a691440bbed53b"), looks := true }, kinds := [], alts := [], laidByText := true, laidKinds := [.data], laidTests := true, laidLooks := .later }
def PrecUnambiguousUptoCardSaid : Prop := Claim7.holds Tryd.pinned (.plain (OpenSpec.upto precUnambiguousSpec)) precUnambiguousUptoCard

/-- THE SECOND FORM's CARD OF 'parlkeep2.LeftrecCounts'. -/
def leftrecCountsUptoCard : Claim7 := { stood := { row := leftrecCountsUptoRow, standIns := [], harness := (true, "cb4f58f0afcf614487bf6169ad2fc8843c3fd82afd030a8149a691440bbed53b"), looks := true }, kinds := [], alts := [], laidByText := true, laidKinds := [.data], laidTests := true, laidLooks := .later }
def LeftrecCountsUptoCardSaid : Prop := Claim7.holds Tryd.pinned (.plain (OpenSpec.upto leftrecCountsSpec)) leftrecCountsUptoCard
end Rows
end Go.Proofs.YtjdojogjogenkaaDoor
