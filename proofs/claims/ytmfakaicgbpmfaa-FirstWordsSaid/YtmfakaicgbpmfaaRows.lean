/-
  No cell of these rows narrows 'for every input' (looked for: loops, veiled, ifaces, maps, wideKeys, modest, calm, conditions, laid).
  DERIVED. THE GIVEN ROWS OF THIS SEAT. 6 by the template 'for every input the law returns true; each argument reads behind the call as it read before'; 0 by the template 'total and deterministic' (their statements: YtmfakaicgbpmfaaTotals.lean).
  GIVEN WITH THE SEED: the statements are not yours to turn. If you find one false, say at which input.
  Laid BY PROGRAM, IN A SANDBOX (cutbox-rows.mjs): the forced cells as the released guide's own fill.sh prints them over the translation 9e89c891ce73b3a7… (all of the seat's roots in one cut). By AI agents, Wed Nov 11 2026. No macro, syntax, notation, axiom, sorry.
-/
import Derived.Test.YtmfakaicgbpmfaaChecked
import GoSem.Claim
import GoSem.ClaimJoined
import GoSem.ClaimMapViews
import Derived.JoinedTies
import Derived.KernelRfl
namespace Go.Proofs.Ytmfakaicgbpmfaa
/- THE CELL 'sum', in the pinned program and in every row, IS THE sha256 OF THE DUMP (.gsa) THAT YtmfakaicgbpmfaaProg.lean LOADS. Nothing in Lean hashes anything: it is a label: what it is worth is what the hold of that sum in a sandbox is worth. -/
noncomputable def Try.pinned : Pinned := { name := "ytmfakaicgbpmfaa", sum := "9e89c891ce73b3a7e0d9b3f34a5dd652467ef662ed675d50f930c2819ab8b3e1", checked := Try.checked }
namespace Rows
def none {H : Type} : Left H := { results := [], args := [] }

/-- 'parllaw2.GramOrders': WHATEVER THE INPUT: true; the input reads as it did. -/
def gramOrdersSpec : ChangeSpec := { name := "gramOrders", fn := fun _ => fun
  | [d1, d2, d3, d4] => { results := [.lit (.bool true)], args := [d1, d2, d3, d4] }
  | _ => none }
def gramOrdersRow : OpenClaim := { program := "ytmfakaicgbpmfaa", sum := "9e89c891ce73b3a7e0d9b3f34a5dd652467ef662ed675d50f930c2819ab8b3e1", func := "parlance/parllaw2.GramOrders", spec := "gramOrders", unfollowed := true, recurses := true, apart := false }
def GramOrdersSaid : Prop := gramOrdersRow.holds Try.pinned (OpenSpec.ofChange gramOrdersSpec)

/-- ITS FALSE NEIGHBOUR: 'it returns false'. Refute it at one input. -/
def gramOrdersWrong : ChangeSpec := { name := "gramOrders", fn := fun _ => fun
  | [d1, d2, d3, d4] => { results := [.lit (.bool false)], args := [d1, d2, d3, d4] }
  | _ => none }
def GramOrdersWrongFalsely : Prop := gramOrdersRow.holds Try.pinned (OpenSpec.ofChange gramOrdersWrong)

/-- 'parlkeep2.GramRulesApart': WHATEVER THE INPUT: true; the input reads as it did. -/
def gramRulesApartSpec : ChangeSpec := { name := "gramRulesApart", fn := fun _ => fun
  | [d] => { results := [.lit (.bool true)], args := [d] }
  | _ => none }
def gramRulesApartRow : OpenClaim := { program := "ytmfakaicgbpmfaa", sum := "9e89c891ce73b3a7e0d9b3f34a5dd652467ef662ed675d50f930c2819ab8b3e1", func := "parlance/parlkeep2.GramRulesApart", spec := "gramRulesApart", unfollowed := true, recurses := true, apart := false }
def GramRulesApartSaid : Prop := gramRulesApartRow.holds Try.pinned (OpenSpec.ofChange gramRulesApartSpec)

/-- ITS FALSE NEIGHBOUR: 'it returns false'. Refute it at one input. -/
def gramRulesApartWrong : ChangeSpec := { name := "gramRulesApart", fn := fun _ => fun
  | [d] => { results := [.lit (.bool false)], args := [d] }
  | _ => none }
def GramRulesApartWrongFalsely : Prop := gramRulesApartRow.holds Try.pinned (OpenSpec.ofChange gramRulesApartWrong)

/-- 'parllaw2.PrecTables': WHATEVER THE INPUT: true; the input reads as it did. -/
def precTablesSpec : ChangeSpec := { name := "precTables", fn := fun _ => fun
  | [d] => { results := [.lit (.bool true)], args := [d] }
  | _ => none }
def precTablesRow : OpenClaim := { program := "ytmfakaicgbpmfaa", sum := "9e89c891ce73b3a7e0d9b3f34a5dd652467ef662ed675d50f930c2819ab8b3e1", func := "parlance/parllaw2.PrecTables", spec := "precTables", unfollowed := true, recurses := true, apart := false }
def PrecTablesSaid : Prop := precTablesRow.holds Try.pinned (OpenSpec.ofChange precTablesSpec)

/-- ITS FALSE NEIGHBOUR: 'it returns false'. Refute it at one input. -/
def precTablesWrong : ChangeSpec := { name := "precTables", fn := fun _ => fun
  | [d] => { results := [.lit (.bool false)], args := [d] }
  | _ => none }
def PrecTablesWrongFalsely : Prop := precTablesRow.holds Try.pinned (OpenSpec.ofChange precTablesWrong)

/-- 'parlkeep2.LayoutWellFormed': WHATEVER THE INPUT: true; the input reads as it did. -/
def layoutWellFormedSpec : ChangeSpec := { name := "layoutWellFormed", fn := fun _ => fun
  | [d1, d2, d3] => { results := [.lit (.bool true)], args := [d1, d2, d3] }
  | _ => none }
def layoutWellFormedRow : OpenClaim := { program := "ytmfakaicgbpmfaa", sum := "9e89c891ce73b3a7e0d9b3f34a5dd652467ef662ed675d50f930c2819ab8b3e1", func := "parlance/parlkeep2.LayoutWellFormed", spec := "layoutWellFormed", unfollowed := true, recurses := true, apart := false }
def LayoutWellFormedSaid : Prop := layoutWellFormedRow.holds Try.pinned (OpenSpec.ofChange layoutWellFormedSpec)

/-- ITS FALSE NEIGHBOUR: 'it returns false'. Refute it at one input. -/
def layoutWellFormedWrong : ChangeSpec := { name := "layoutWellFormed", fn := fun _ => fun
  | [d1, d2, d3] => { results := [.lit (.bool false)], args := [d1, d2, d3] }
  | _ => none }
def LayoutWellFormedWrongFalsely : Prop := layoutWellFormedRow.holds Try.pinned (OpenSpec.ofChange layoutWellFormedWrong)

/-- 'parlkeep2.FirstWords': WHATEVER THE INPUT: true; the input reads as it did. -/
def firstWordsSpec : ChangeSpec := { name := "firstWords", fn := fun _ => fun
  | [d1, d2] => { results := [.lit (.bool true)], args := [d1, d2] }
  | _ => none }
def firstWordsRow : OpenClaim := { program := "ytmfakaicgbpmfaa", sum := "9e89c891ce73b3a7e0d9b3f34a5dd652467ef662ed675d50f930c2819ab8b3e1", func := "parlance/parlkeep2.FirstWords", spec := "firstWords", unfollowed := true, recurses := true, apart := false }
def FirstWordsSaid : Prop := firstWordsRow.holds Try.pinned (OpenSpec.ofChange firstWordsSpec)

/-- ITS FALSE NEIGHBOUR: 'it returns false'. Refute it at one input. -/
def firstWordsWrong : ChangeSpec := { name := "firstWords", fn := fun _ => fun
  | [d1, d2] => { results := [.lit (.bool false)], args := [d1, d2] }
  | _ => none }
def FirstWordsWrongFalsely : Prop := firstWordsRow.holds Try.pinned (OpenSpec.ofChange firstWordsWrong)

/-- 'parllaw2.PrecClimbs': WHATEVER THE INPUT: true; the input reads as it did. -/
def precClimbsSpec : ChangeSpec := { name := "precClimbs", fn := fun _ => fun
  | [d1, d2] => { results := [.lit (.bool true)], args := [d1, d2] }
  | _ => none }
def precClimbsRow : OpenClaim := { program := "ytmfakaicgbpmfaa", sum := "9e89c891ce73b3a7e0d9b3f34a5dd652467ef662ed675d50f930c2819ab8b3e1", func := "parlance/parllaw2.PrecClimbs", spec := "precClimbs", unfollowed := true, recurses := true, apart := false }
def PrecClimbsSaid : Prop := precClimbsRow.holds Try.pinned (OpenSpec.ofChange precClimbsSpec)

/-- ITS FALSE NEIGHBOUR: 'it returns false'. Refute it at one input. -/
def precClimbsWrong : ChangeSpec := { name := "precClimbs", fn := fun _ => fun
  | [d1, d2] => { results := [.lit (.bool false)], args := [d1, d2] }
  | _ => none }
def PrecClimbsWrongFalsely : Prop := precClimbsRow.holds Try.pinned (OpenSpec.ofChange precClimbsWrong)

/- THE SECOND FORM. 'bulk': how many values and letters a reading holds, each counted each time it is reached (what is shared counts as often as it is met; a slice's spare places count too). A statement '..UptoSaid' is the law's where the arguments, and the package variables that the reading takes, are together of bulk at most 1048576: NARROWER than '..Said'. Prove '..Said' where nothing that the law and all that it calls make is longer than what came in: it says more and counts as full. Else prove '..UptoSaid'. A law counts once. -/
mutual
def uptoBulk {H : Type} : DataW H → Nat
  | .lit (.string bytes) => bytes.length + 1
  | .lit _ => 1
  | .nil => 1
  | .ptr d => uptoBulk d + 1
  | .slice elems spare => uptoBulkAll elems + uptoBulkAll spare + 1
  | .agg parts => uptoBulkAll parts + 1
  | .iface _ d => uptoBulk d + 1
  | .map entries => uptoBulkEntries entries + 1
  | .held _ => 1
def uptoBulkAll {H : Type} : List (DataW H) → Nat
  | [] => 0
  | d :: r => uptoBulk d + uptoBulkAll r
def uptoBulkEntries {H : Type} : List (Lit × DataW H) → Nat
  | [] => 0
  | x :: r => uptoBulkEntry x + uptoBulkEntries r
def uptoBulkEntry {H : Type} : Lit × DataW H → Nat
  | (.string bytes, d) => bytes.length + uptoBulk d + 1
  | (_, d) => uptoBulk d + 1
 end
def uptoSmall : (H : Type) → List (DataW H) → Bool := fun _ ds => decide (uptoBulkAll ds ≤ 1048576)
def OpenSpec.upto (s : _root_.Go.ChangeSpec) : _root_.Go.OpenSpec := { _root_.Go.OpenSpec.ofChange s with cond := some uptoSmall }

/-- 'parllaw2.GramOrders', WHERE WHAT IT READS IS OF BULK AT MOST 1048576: true; the input reads as it did. -/
def gramOrdersUptoRow : OpenClaim := { program := "ytmfakaicgbpmfaa", sum := "9e89c891ce73b3a7e0d9b3f34a5dd652467ef662ed675d50f930c2819ab8b3e1", func := "parlance/parllaw2.GramOrders", spec := "gramOrders", unfollowed := true, recurses := true, apart := false, narrowed := true }
def GramOrdersUptoSaid : Prop := gramOrdersUptoRow.holds Try.pinned (OpenSpec.upto gramOrdersSpec)

/-- 'parlkeep2.GramRulesApart', WHERE WHAT IT READS IS OF BULK AT MOST 1048576: true; the input reads as it did. -/
def gramRulesApartUptoRow : OpenClaim := { program := "ytmfakaicgbpmfaa", sum := "9e89c891ce73b3a7e0d9b3f34a5dd652467ef662ed675d50f930c2819ab8b3e1", func := "parlance/parlkeep2.GramRulesApart", spec := "gramRulesApart", unfollowed := true, recurses := true, apart := false, narrowed := true }
def GramRulesApartUptoSaid : Prop := gramRulesApartUptoRow.holds Try.pinned (OpenSpec.upto gramRulesApartSpec)

/-- 'parllaw2.PrecTables', WHERE WHAT IT READS IS OF BULK AT MOST 1048576: true; the input reads as it did. -/
def precTablesUptoRow : OpenClaim := { program := "ytmfakaicgbpmfaa", sum := "9e89c891ce73b3a7e0d9b3f34a5dd652467ef662ed675d50f930c2819ab8b3e1", func := "parlance/parllaw2.PrecTables", spec := "precTables", unfollowed := true, recurses := true, apart := false, narrowed := true }
def PrecTablesUptoSaid : Prop := precTablesUptoRow.holds Try.pinned (OpenSpec.upto precTablesSpec)

/-- 'parlkeep2.LayoutWellFormed', WHERE WHAT IT READS IS OF BULK AT MOST 1048576: true; the input reads as it did. -/
def layoutWellFormedUptoRow : OpenClaim := { program := "ytmfakaicgbpmfaa", sum := "9e89c891ce73b3a7e0d9b3f34a5dd652467ef662ed675d50f930c2819ab8b3e1", func := "parlance/parlkeep2.LayoutWellFormed", spec := "layoutWellFormed", unfollowed := true, recurses := true, apart := false, narrowed := true }
def LayoutWellFormedUptoSaid : Prop := layoutWellFormedUptoRow.holds Try.pinned (OpenSpec.upto layoutWellFormedSpec)

/-- 'parlkeep2.FirstWords', WHERE WHAT IT READS IS OF BULK AT MOST 1048576: true; the input reads as it did. -/
def firstWordsUptoRow : OpenClaim := { program := "ytmfakaicgbpmfaa", sum := "9e89c891ce73b3a7e0d9b3f34a5dd652467ef662ed675d50f930c2819ab8b3e1", func := "parlance/parlkeep2.FirstWords", spec := "firstWords", unfollowed := true, recurses := true, apart := false, narrowed := true }
def FirstWordsUptoSaid : Prop := firstWordsUptoRow.holds Try.pinned (OpenSpec.upto firstWordsSpec)

/-- 'parllaw2.PrecClimbs', WHERE WHAT IT READS IS OF BULK AT MOST 1048576: true; the input reads as it did. -/
def precClimbsUptoRow : OpenClaim := { program := "ytmfakaicgbpmfaa", sum := "9e89c891ce73b3a7e0d9b3f34a5dd652467ef662ed675d50f930c2819ab8b3e1", func := "parlance/parllaw2.PrecClimbs", spec := "precClimbs", unfollowed := true, recurses := true, apart := false, narrowed := true }
def PrecClimbsUptoSaid : Prop := precClimbsUptoRow.holds Try.pinned (OpenSpec.upto precClimbsSpec)

end Rows
end Go.Proofs.Ytmfakaicgbpmfaa
