/-
  NARROWER THAN 'FOR EVERY INPUT', by the rows' own cells (each row's printed sentence says how): PrecTrees: loops.
  DERIVED. THE GIVEN ROWS OF THIS SEAT. 7 by the template 'for every input the law returns true; each argument reads behind the call as it read before'; 0 by the template 'total and deterministic' (their statements: YtlbhaegdcpacpaaTotals.lean).
  GIVEN WITH THE SEED: the statements are not yours to turn. If you find one false, say at which input.
  Laid BY PROGRAM, IN A SANDBOX (cutbox-rows.mjs): the forced cells as the released guide's own fill.sh prints them over the translation 76bb9a856300968d… (all of the seat's roots in one cut). By AI agents, Wed Nov 11 2026. No macro, syntax, notation, axiom, sorry.
-/
import Derived.Test.YtlbhaegdcpacpaaChecked
import GoSem.Claim
import GoSem.ClaimJoined
import GoSem.ClaimMapViews
import Derived.JoinedTies
import Derived.KernelRfl
namespace Go.Proofs.Ytlbhaegdcpacpaa
/- THE CELL 'sum', in the pinned program and in every row, IS THE sha256 OF THE DUMP (.gsa) THAT YtlbhaegdcpacpaaProg.lean LOADS. Nothing in Lean hashes anything: it is a label: what it is worth is what the hold of that sum in a sandbox is worth. -/
noncomputable def Try.pinned : Pinned := { name := "ytlbhaegdcpacpaa", sum := "76bb9a856300968dda4bf2c41b7e30005640af0d3141d8affd2cda393e0401cf", checked := Try.checked }
namespace Rows
def none {H : Type} : Left H := { results := [], args := [] }

/-- 'parllaw2.PrecTrees': WHATEVER THE INPUT: true; the input reads as it did. -/
def precTreesSpec : ChangeSpec := { name := "precTrees", fn := fun _ => fun
  | [d1, d2, d3] => { results := [.lit (.bool true)], args := [d1, d2, d3] }
  | _ => none }
def precTreesRow : OpenClaim := { program := "ytlbhaegdcpacpaa", sum := "76bb9a856300968dda4bf2c41b7e30005640af0d3141d8affd2cda393e0401cf", func := "parlance/parllaw2.PrecTrees", spec := "precTrees", unfollowed := true, recurses := true, loops := true, apart := false }
def PrecTreesSaid : Prop := precTreesRow.holds Try.pinned (OpenSpec.ofChange precTreesSpec)

/-- ITS FALSE NEIGHBOUR: 'it returns false'. Refute it at one input. -/
def precTreesWrong : ChangeSpec := { name := "precTrees", fn := fun _ => fun
  | [d1, d2, d3] => { results := [.lit (.bool false)], args := [d1, d2, d3] }
  | _ => none }
def PrecTreesWrongFalsely : Prop := precTreesRow.holds Try.pinned (OpenSpec.ofChange precTreesWrong)

/-- 'parlkeep2.FirstFollows': WHATEVER THE INPUT: true; the input reads as it did. -/
def firstFollowsSpec : ChangeSpec := { name := "firstFollows", fn := fun _ => fun
  | [d1, d2] => { results := [.lit (.bool true)], args := [d1, d2] }
  | _ => none }
def firstFollowsRow : OpenClaim := { program := "ytlbhaegdcpacpaa", sum := "76bb9a856300968dda4bf2c41b7e30005640af0d3141d8affd2cda393e0401cf", func := "parlance/parlkeep2.FirstFollows", spec := "firstFollows", unfollowed := true, recurses := true, apart := false }
def FirstFollowsSaid : Prop := firstFollowsRow.holds Try.pinned (OpenSpec.ofChange firstFollowsSpec)

/-- ITS FALSE NEIGHBOUR: 'it returns false'. Refute it at one input. -/
def firstFollowsWrong : ChangeSpec := { name := "firstFollows", fn := fun _ => fun
  | [d1, d2] => { results := [.lit (.bool false)], args := [d1, d2] }
  | _ => none }
def FirstFollowsWrongFalsely : Prop := firstFollowsRow.holds Try.pinned (OpenSpec.ofChange firstFollowsWrong)

/-- 'parlkeep2.UsefulTreesStay': WHATEVER THE INPUT: true; the input reads as it did. -/
def usefulTreesStaySpec : ChangeSpec := { name := "usefulTreesStay", fn := fun _ => fun
  | [d1, d2] => { results := [.lit (.bool true)], args := [d1, d2] }
  | _ => none }
def usefulTreesStayRow : OpenClaim := { program := "ytlbhaegdcpacpaa", sum := "76bb9a856300968dda4bf2c41b7e30005640af0d3141d8affd2cda393e0401cf", func := "parlance/parlkeep2.UsefulTreesStay", spec := "usefulTreesStay", unfollowed := true, recurses := true, apart := false }
def UsefulTreesStaySaid : Prop := usefulTreesStayRow.holds Try.pinned (OpenSpec.ofChange usefulTreesStaySpec)

/-- ITS FALSE NEIGHBOUR: 'it returns false'. Refute it at one input. -/
def usefulTreesStayWrong : ChangeSpec := { name := "usefulTreesStay", fn := fun _ => fun
  | [d1, d2] => { results := [.lit (.bool false)], args := [d1, d2] }
  | _ => none }
def UsefulTreesStayWrongFalsely : Prop := usefulTreesStayRow.holds Try.pinned (OpenSpec.ofChange usefulTreesStayWrong)

/-- 'parlkeep2.PrecAllowedOnly': WHATEVER THE INPUT: true; the input reads as it did. -/
def precAllowedOnlySpec : ChangeSpec := { name := "precAllowedOnly", fn := fun _ => fun
  | [d1, d2] => { results := [.lit (.bool true)], args := [d1, d2] }
  | _ => none }
def precAllowedOnlyRow : OpenClaim := { program := "ytlbhaegdcpacpaa", sum := "76bb9a856300968dda4bf2c41b7e30005640af0d3141d8affd2cda393e0401cf", func := "parlance/parlkeep2.PrecAllowedOnly", spec := "precAllowedOnly", unfollowed := true, recurses := true, apart := false }
def PrecAllowedOnlySaid : Prop := precAllowedOnlyRow.holds Try.pinned (OpenSpec.ofChange precAllowedOnlySpec)

/-- ITS FALSE NEIGHBOUR: 'it returns false'. Refute it at one input. -/
def precAllowedOnlyWrong : ChangeSpec := { name := "precAllowedOnly", fn := fun _ => fun
  | [d1, d2] => { results := [.lit (.bool false)], args := [d1, d2] }
  | _ => none }
def PrecAllowedOnlyWrongFalsely : Prop := precAllowedOnlyRow.holds Try.pinned (OpenSpec.ofChange precAllowedOnlyWrong)

/-- 'parlkeep2.UsefulOnce': WHATEVER THE INPUT: true; the input reads as it did. -/
def usefulOnceSpec : ChangeSpec := { name := "usefulOnce", fn := fun _ => fun
  | [d] => { results := [.lit (.bool true)], args := [d] }
  | _ => none }
def usefulOnceRow : OpenClaim := { program := "ytlbhaegdcpacpaa", sum := "76bb9a856300968dda4bf2c41b7e30005640af0d3141d8affd2cda393e0401cf", func := "parlance/parlkeep2.UsefulOnce", spec := "usefulOnce", unfollowed := true, recurses := true, apart := false }
def UsefulOnceSaid : Prop := usefulOnceRow.holds Try.pinned (OpenSpec.ofChange usefulOnceSpec)

/-- ITS FALSE NEIGHBOUR: 'it returns false'. Refute it at one input. -/
def usefulOnceWrong : ChangeSpec := { name := "usefulOnce", fn := fun _ => fun
  | [d] => { results := [.lit (.bool false)], args := [d] }
  | _ => none }
def UsefulOnceWrongFalsely : Prop := usefulOnceRow.holds Try.pinned (OpenSpec.ofChange usefulOnceWrong)

/-- 'parlkeep2.CycleIsOne': WHATEVER THE INPUT: true; the input reads as it did. -/
def cycleIsOneSpec : ChangeSpec := { name := "cycleIsOne", fn := fun _ => fun
  | [d] => { results := [.lit (.bool true)], args := [d] }
  | _ => none }
def cycleIsOneRow : OpenClaim := { program := "ytlbhaegdcpacpaa", sum := "76bb9a856300968dda4bf2c41b7e30005640af0d3141d8affd2cda393e0401cf", func := "parlance/parlkeep2.CycleIsOne", spec := "cycleIsOne", unfollowed := true, recurses := true, apart := false }
def CycleIsOneSaid : Prop := cycleIsOneRow.holds Try.pinned (OpenSpec.ofChange cycleIsOneSpec)

/-- ITS FALSE NEIGHBOUR: 'it returns false'. Refute it at one input. -/
def cycleIsOneWrong : ChangeSpec := { name := "cycleIsOne", fn := fun _ => fun
  | [d] => { results := [.lit (.bool false)], args := [d] }
  | _ => none }
def CycleIsOneWrongFalsely : Prop := cycleIsOneRow.holds Try.pinned (OpenSpec.ofChange cycleIsOneWrong)

/-- 'parlkeep2.PrecBackAllowed': WHATEVER THE INPUT: true; the input reads as it did. -/
def precBackAllowedSpec : ChangeSpec := { name := "precBackAllowed", fn := fun _ => fun
  | [d1, d2] => { results := [.lit (.bool true)], args := [d1, d2] }
  | _ => none }
def precBackAllowedRow : OpenClaim := { program := "ytlbhaegdcpacpaa", sum := "76bb9a856300968dda4bf2c41b7e30005640af0d3141d8affd2cda393e0401cf", func := "parlance/parlkeep2.PrecBackAllowed", spec := "precBackAllowed", unfollowed := true, recurses := true, apart := false }
def PrecBackAllowedSaid : Prop := precBackAllowedRow.holds Try.pinned (OpenSpec.ofChange precBackAllowedSpec)

/-- ITS FALSE NEIGHBOUR: 'it returns false'. Refute it at one input. -/
def precBackAllowedWrong : ChangeSpec := { name := "precBackAllowed", fn := fun _ => fun
  | [d1, d2] => { results := [.lit (.bool false)], args := [d1, d2] }
  | _ => none }
def PrecBackAllowedWrongFalsely : Prop := precBackAllowedRow.holds Try.pinned (OpenSpec.ofChange precBackAllowedWrong)

/- THE SECOND FORM. 'bulk': how many values and letters a reading holds, each counted each time it is reached (what is shared counts as often as it is met; a slice's spare places count too). A statement '..UptoSaid' is the law's where the arguments, and the package variables that the reading takes, are together of bulk at most 1048576: NARROWER than '..Said'. Prove '..Said' where nothing that the law and all that it calls make is longer than what came in: it says more and counts as full. Else prove '..UptoSaid'. A law counts once. -/
mutual
def uptoBulk {H : Type} : DataW H → Nat
  | .lit (.string bytes) => bytes.length + 1
  | .lit _ => 1
  | .nil => 1
  | .ptr d => uptoBulk d + 1
  | .slice elems spare => uptoBulkAll elems + uptoBulkAll spare + 1
  | .agg parts => uptoBulkAll parts + 1
  | .iface _ d => uptoBulk d + 1
  | .map entries => uptoBulkEntries entries + 1
  | .held _ => 1
def uptoBulkAll {H : Type} : List (DataW H) → Nat
  | [] => 0
  | d :: r => uptoBulk d + uptoBulkAll r
def uptoBulkEntries {H : Type} : List (Lit × DataW H) → Nat
  | [] => 0
  | x :: r => uptoBulkEntry x + uptoBulkEntries r
def uptoBulkEntry {H : Type} : Lit × DataW H → Nat
  | (.string bytes, d) => bytes.length + uptoBulk d + 1
  | (_, d) => uptoBulk d + 1
 end
def uptoSmall : (H : Type) → List (DataW H) → Bool := fun _ ds => decide (uptoBulkAll ds ≤ 1048576)
def OpenSpec.upto (s : _root_.Go.ChangeSpec) : _root_.Go.OpenSpec := { _root_.Go.OpenSpec.ofChange s with cond := some uptoSmall }

/-- 'parllaw2.PrecTrees', WHERE WHAT IT READS IS OF BULK AT MOST 1048576: true; the input reads as it did. -/
def precTreesUptoRow : OpenClaim := { program := "ytlbhaegdcpacpaa", sum := "76bb9a856300968dda4bf2c41b7e30005640af0d3141d8affd2cda393e0401cf", func := "parlance/parllaw2.PrecTrees", spec := "precTrees", unfollowed := true, recurses := true, loops := true, apart := false, narrowed := true }
def PrecTreesUptoSaid : Prop := precTreesUptoRow.holds Try.pinned (OpenSpec.upto precTreesSpec)

/-- 'parlkeep2.FirstFollows', WHERE WHAT IT READS IS OF BULK AT MOST 1048576: true; the input reads as it did. -/
def firstFollowsUptoRow : OpenClaim := { program := "ytlbhaegdcpacpaa", sum := "76bb9a856300968dda4bf2c41b7e30005640af0d3141d8affd2cda393e0401cf", func := "parlance/parlkeep2.FirstFollows", spec := "firstFollows", unfollowed := true, recurses := true, apart := false, narrowed := true }
def FirstFollowsUptoSaid : Prop := firstFollowsUptoRow.holds Try.pinned (OpenSpec.upto firstFollowsSpec)

/-- 'parlkeep2.UsefulTreesStay', WHERE WHAT IT READS IS OF BULK AT MOST 1048576: true; the input reads as it did. -/
def usefulTreesStayUptoRow : OpenClaim := { program := "ytlbhaegdcpacpaa", sum := "76bb9a856300968dda4bf2c41b7e30005640af0d3141d8affd2cda393e0401cf", func := "parlance/parlkeep2.UsefulTreesStay", spec := "usefulTreesStay", unfollowed := true, recurses := true, apart := false, narrowed := true }
def UsefulTreesStayUptoSaid : Prop := usefulTreesStayUptoRow.holds Try.pinned (OpenSpec.upto usefulTreesStaySpec)

/-- 'parlkeep2.PrecAllowedOnly', WHERE WHAT IT READS IS OF BULK AT MOST 1048576: true; the input reads as it did. -/
def precAllowedOnlyUptoRow : OpenClaim := { program := "ytlbhaegdcpacpaa", sum := "76bb9a856300968dda4bf2c41b7e30005640af0d3141d8affd2cda393e0401cf", func := "parlance/parlkeep2.PrecAllowedOnly", spec := "precAllowedOnly", unfollowed := true, recurses := true, apart := false, narrowed := true }
def PrecAllowedOnlyUptoSaid : Prop := precAllowedOnlyUptoRow.holds Try.pinned (OpenSpec.upto precAllowedOnlySpec)

/-- 'parlkeep2.UsefulOnce', WHERE WHAT IT READS IS OF BULK AT MOST 1048576: true; the input reads as it did. -/
def usefulOnceUptoRow : OpenClaim := { program := "ytlbhaegdcpacpaa", sum := "76bb9a856300968dda4bf2c41b7e30005640af0d3141d8affd2cda393e0401cf", func := "parlance/parlkeep2.UsefulOnce", spec := "usefulOnce", unfollowed := true, recurses := true, apart := false, narrowed := true }
def UsefulOnceUptoSaid : Prop := usefulOnceUptoRow.holds Try.pinned (OpenSpec.upto usefulOnceSpec)

/-- 'parlkeep2.CycleIsOne', WHERE WHAT IT READS IS OF BULK AT MOST 1048576: true; the input reads as it did. -/
def cycleIsOneUptoRow : OpenClaim := { program := "ytlbhaegdcpacpaa", sum := "76bb9a856300968dda4bf2c41b7e30005640af0d3141d8affd2cda393e0401cf", func := "parlance/parlkeep2.CycleIsOne", spec := "cycleIsOne", unfollowed := true, recurses := true, apart := false, narrowed := true }
def CycleIsOneUptoSaid : Prop := cycleIsOneUptoRow.holds Try.pinned (OpenSpec.upto cycleIsOneSpec)

/-- 'parlkeep2.PrecBackAllowed', WHERE WHAT IT READS IS OF BULK AT MOST 1048576: true; the input reads as it did. -/
def precBackAllowedUptoRow : OpenClaim := { program := "ytlbhaegdcpacpaa", sum := "76bb9a856300968dda4bf2c41b7e30005640af0d3141d8affd2cda393e0401cf", func := "parlance/parlkeep2.PrecBackAllowed", spec := "precBackAllowed", unfollowed := true, recurses := true, apart := false, narrowed := true }
def PrecBackAllowedUptoSaid : Prop := precBackAllowedUptoRow.holds Try.pinned (OpenSpec.upto precBackAllowedSpec)

end Rows
end Go.Proofs.Ytlbhaegdcpacpaa
