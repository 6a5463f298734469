/-
  NARROWER THAN 'FOR EVERY INPUT', by the rows' own cells (each row's printed sentence says how): ClosedUnion: laid · GramTreesHaveMeaning: laid · UsefulWords: laid · ClosedReverse: laid · CycleMany: laid · PrecUnambiguous: laid.
  DERIVED. THE GIVEN ROWS OF THIS SEAT. 6 by the template 'for every input the law returns true; each argument reads behind the call as it read before'; 0 by the template 'total and deterministic' (their statements: YtnlpeiffbnlncaaDoorTotals.lean).
  GIVEN WITH THE SEED: the statements are not yours to turn. If you find one false, say at which input.
  Laid BY PROGRAM, IN A SANDBOX (cutbox-rows.mjs): the forced cells as the released guide's own fill.sh prints them over the translation 43b937702cd7c1ee… (all of the seat's roots in one cut). By AI agents, Wed Nov 11 2026. No macro, syntax, notation, axiom, sorry.
-/
import Derived.Test.YtnlpeiffbnlncaaDoorChecked
import GoSem.Claim
import GoSem.ClaimJoined
import GoSem.ClaimMapViews
import Derived.JoinedTies
import Derived.KernelRfl
namespace Go.Proofs.YtnlpeiffbnlncaaDoor
/- THE CELL 'sum', in the pinned program and in every row, IS THE sha256 OF THE DUMP (.gsa) THAT YtnlpeiffbnlncaaDoorProg.lean LOADS. Nothing in Lean hashes anything: it is a label: what it is worth is what the hold of that sum in a sandbox is worth. -/
noncomputable def Tryd.pinned : Pinned := { name := "ytnlpeiffbnlncaadoor", sum := "43b937702cd7c1ee1dd089dcfd1cea0b9f222528fee9cb409ee96bc570027389", checked := Tryd.checked }
namespace Rows
def none {H : Type} : Left H := { results := [], args := [] }

/- WHAT THE LISTED PACKAGE-LEVEL VARIABLES READ AS WHEN THE CALL BEGINS. Each datum BY PROGRAM (the guide's laid-datum.mjs) off the statement by which the dump's own 'gosem.cut.vars' lays the variable. In a bare row this is a premise. The card (YtnlpeiffbnlncaaDoorCards.lean) ties it to the program's text. -/
def laid_math_bits_deBruijn32tab {H : Type} : DataW H := .agg [.lit (.int .u8 0), .lit (.int .u8 1), .lit (.int .u8 28), .lit (.int .u8 2), .lit (.int .u8 29), .lit (.int .u8 14), .lit (.int .u8 24), .lit (.int .u8 3), .lit (.int .u8 30), .lit (.int .u8 22), .lit (.int .u8 20), .lit (.int .u8 15), .lit (.int .u8 25), .lit (.int .u8 17), .lit (.int .u8 4), .lit (.int .u8 8), .lit (.int .u8 31), .lit (.int .u8 27), .lit (.int .u8 13), .lit (.int .u8 23), .lit (.int .u8 21), .lit (.int .u8 19), .lit (.int .u8 16), .lit (.int .u8 7), .lit (.int .u8 26), .lit (.int .u8 12), .lit (.int .u8 18), .lit (.int .u8 6), .lit (.int .u8 11), .lit (.int .u8 5), .lit (.int .u8 10), .lit (.int .u8 9)]

/-- 'parlkeep2.ClosedUnion': WHATEVER THE INPUT: true; the input reads as it did. -/
def closedUnionSpec : ChangeSpec := { name := "closedUnion", fn := fun _ => fun
  | [d1, d2, d3] => { results := [.lit (.bool true)], args := [d1, d2, d3] }
  | _ => none }
def closedUnionRow : OpenClaim := { program := "ytnlpeiffbnlncaadoor", sum := "43b937702cd7c1ee1dd089dcfd1cea0b9f222528fee9cb409ee96bc570027389", func := "parlance/parlkeep2.ClosedUnion", spec := "closedUnion", unfollowed := true, recurses := true, named := ["math/bits.deBruijn32tab"], plainKeys := false, apart := false, laid := [("math/bits.deBruijn32tab", laid_math_bits_deBruijn32tab)] }
def ClosedUnionSaid : Prop := closedUnionRow.holds Tryd.pinned (OpenSpec.ofChange closedUnionSpec)

/-- ITS FALSE NEIGHBOUR: 'it returns false'. Refute it at one input. -/
def closedUnionWrong : ChangeSpec := { name := "closedUnion", fn := fun _ => fun
  | [d1, d2, d3] => { results := [.lit (.bool false)], args := [d1, d2, d3] }
  | _ => none }
def ClosedUnionWrongFalsely : Prop := closedUnionRow.holds Tryd.pinned (OpenSpec.ofChange closedUnionWrong)

/-- 'parlkeep2.GramTreesHaveMeaning': WHATEVER THE INPUT: true; the input reads as it did. -/
def gramTreesHaveMeaningSpec : ChangeSpec := { name := "gramTreesHaveMeaning", fn := fun _ => fun
  | [d1, d2] => { results := [.lit (.bool true)], args := [d1, d2] }
  | _ => none }
def gramTreesHaveMeaningRow : OpenClaim := { program := "ytnlpeiffbnlncaadoor", sum := "43b937702cd7c1ee1dd089dcfd1cea0b9f222528fee9cb409ee96bc570027389", func := "parlance/parlkeep2.GramTreesHaveMeaning", spec := "gramTreesHaveMeaning", unfollowed := true, recurses := true, named := ["math/bits.deBruijn32tab"], plainKeys := false, apart := false, laid := [("math/bits.deBruijn32tab", laid_math_bits_deBruijn32tab)] }
def GramTreesHaveMeaningSaid : Prop := gramTreesHaveMeaningRow.holds Tryd.pinned (OpenSpec.ofChange gramTreesHaveMeaningSpec)

/-- ITS FALSE NEIGHBOUR: 'it returns false'. Refute it at one input. -/
def gramTreesHaveMeaningWrong : ChangeSpec := { name := "gramTreesHaveMeaning", fn := fun _ => fun
  | [d1, d2] => { results := [.lit (.bool false)], args := [d1, d2] }
  | _ => none }
def GramTreesHaveMeaningWrongFalsely : Prop := gramTreesHaveMeaningRow.holds Tryd.pinned (OpenSpec.ofChange gramTreesHaveMeaningWrong)

/-- 'parlkeep2.UsefulWords': WHATEVER THE INPUT: true; the input reads as it did. -/
def usefulWordsSpec : ChangeSpec := { name := "usefulWords", fn := fun _ => fun
  | [d1, d2] => { results := [.lit (.bool true)], args := [d1, d2] }
  | _ => none }
def usefulWordsRow : OpenClaim := { program := "ytnlpeiffbnlncaadoor", sum := "43b937702cd7c1ee1dd089dcfd1cea0b9f222528fee9cb409ee96bc570027389", func := "parlance/parlkeep2.UsefulWords", spec := "usefulWords", unfollowed := true, recurses := true, named := ["math/bits.deBruijn32tab"], plainKeys := false, apart := false, laid := [("math/bits.deBruijn32tab", laid_math_bits_deBruijn32tab)] }
def UsefulWordsSaid : Prop := usefulWordsRow.holds Tryd.pinned (OpenSpec.ofChange usefulWordsSpec)

/-- ITS FALSE NEIGHBOUR: 'it returns false'. Refute it at one input. -/
def usefulWordsWrong : ChangeSpec := { name := "usefulWords", fn := fun _ => fun
  | [d1, d2] => { results := [.lit (.bool false)], args := [d1, d2] }
  | _ => none }
def UsefulWordsWrongFalsely : Prop := usefulWordsRow.holds Tryd.pinned (OpenSpec.ofChange usefulWordsWrong)

/-- 'parlkeep2.ClosedReverse': WHATEVER THE INPUT: true; the input reads as it did. -/
def closedReverseSpec : ChangeSpec := { name := "closedReverse", fn := fun _ => fun
  | [d1, d2, d3] => { results := [.lit (.bool true)], args := [d1, d2, d3] }
  | _ => none }
def closedReverseRow : OpenClaim := { program := "ytnlpeiffbnlncaadoor", sum := "43b937702cd7c1ee1dd089dcfd1cea0b9f222528fee9cb409ee96bc570027389", func := "parlance/parlkeep2.ClosedReverse", spec := "closedReverse", unfollowed := true, recurses := true, named := ["math/bits.deBruijn32tab"], plainKeys := false, apart := false, laid := [("math/bits.deBruijn32tab", laid_math_bits_deBruijn32tab)] }
def ClosedReverseSaid : Prop := closedReverseRow.holds Tryd.pinned (OpenSpec.ofChange closedReverseSpec)

/-- ITS FALSE NEIGHBOUR: 'it returns false'. Refute it at one input. -/
def closedReverseWrong : ChangeSpec := { name := "closedReverse", fn := fun _ => fun
  | [d1, d2, d3] => { results := [.lit (.bool false)], args := [d1, d2, d3] }
  | _ => none }
def ClosedReverseWrongFalsely : Prop := closedReverseRow.holds Tryd.pinned (OpenSpec.ofChange closedReverseWrong)

/-- 'parlkeep2.CycleMany': WHATEVER THE INPUT: true; the input reads as it did. -/
def cycleManySpec : ChangeSpec := { name := "cycleMany", fn := fun _ => fun
  | [d1, d2] => { results := [.lit (.bool true)], args := [d1, d2] }
  | _ => none }
def cycleManyRow : OpenClaim := { program := "ytnlpeiffbnlncaadoor", sum := "43b937702cd7c1ee1dd089dcfd1cea0b9f222528fee9cb409ee96bc570027389", func := "parlance/parlkeep2.CycleMany", spec := "cycleMany", unfollowed := true, recurses := true, named := ["math/bits.deBruijn32tab"], plainKeys := false, apart := false, laid := [("math/bits.deBruijn32tab", laid_math_bits_deBruijn32tab)] }
def CycleManySaid : Prop := cycleManyRow.holds Tryd.pinned (OpenSpec.ofChange cycleManySpec)

/-- ITS FALSE NEIGHBOUR: 'it returns false'. Refute it at one input. -/
def cycleManyWrong : ChangeSpec := { name := "cycleMany", fn := fun _ => fun
  | [d1, d2] => { results := [.lit (.bool false)], args := [d1, d2] }
  | _ => none }
def CycleManyWrongFalsely : Prop := cycleManyRow.holds Tryd.pinned (OpenSpec.ofChange cycleManyWrong)

/-- 'parlkeep2.PrecUnambiguous': WHATEVER THE INPUT: true; the input reads as it did. -/
def precUnambiguousSpec : ChangeSpec := { name := "precUnambiguous", fn := fun _ => fun
  | [d1, d2] => { results := [.lit (.bool true)], args := [d1, d2] }
  | _ => none }
def precUnambiguousRow : OpenClaim := { program := "ytnlpeiffbnlncaadoor", sum := "43b937702cd7c1ee1dd089dcfd1cea0b9f222528fee9cb409ee96bc570027389", func := "parlance/parlkeep2.PrecUnambiguous", spec := "precUnambiguous", unfollowed := true, recurses := true, named := ["math/bits.deBruijn32tab"], plainKeys := false, apart := false, laid := [("math/bits.deBruijn32tab", laid_math_bits_deBruijn32tab)] }
def PrecUnambiguousSaid : Prop := precUnambiguousRow.holds Tryd.pinned (OpenSpec.ofChange precUnambiguousSpec)

/-- ITS FALSE NEIGHBOUR: 'it returns false'. Refute it at one input. -/
def precUnambiguousWrong : ChangeSpec := { name := "precUnambiguous", fn := fun _ => fun
  | [d1, d2] => { results := [.lit (.bool false)], args := [d1, d2] }
  | _ => none }
def PrecUnambiguousWrongFalsely : Prop := precUnambiguousRow.holds Tryd.pinned (OpenSpec.ofChange precUnambiguousWrong)

/- THE SECOND FORM. 'bulk': how many values and letters a reading holds, each counted each time it is reached (what is shared counts as often as it is met; a slice's spare places count too). A statement '..UptoSaid' is the law's where the arguments, and the package variables that the reading takes, are together of bulk at most 1048576: NARROWER than '..Said'. Prove '..Said' where nothing that the law and all that it calls make is longer than what came in: it says more and counts as full. Else prove '..UptoSaid'. A law counts once. -/
mutual
def uptoBulk {H : Type} : DataW H → Nat
  | .lit (.string bytes) => bytes.length + 1
  | .lit _ => 1
  | .nil => 1
  | .ptr d => uptoBulk d + 1
  | .slice elems spare => uptoBulkAll elems + uptoBulkAll spare + 1
  | .agg parts => uptoBulkAll parts + 1
  | .iface _ d => uptoBulk d + 1
  | .map entries => uptoBulkEntries entries + 1
  | .held _ => 1
def uptoBulkAll {H : Type} : List (DataW H) → Nat
  | [] => 0
  | d :: r => uptoBulk d + uptoBulkAll r
def uptoBulkEntries {H : Type} : List (Lit × DataW H) → Nat
  | [] => 0
  | x :: r => uptoBulkEntry x + uptoBulkEntries r
def uptoBulkEntry {H : Type} : Lit × DataW H → Nat
  | (.string bytes, d) => bytes.length + uptoBulk d + 1
  | (_, d) => uptoBulk d + 1
 end
def uptoSmall : (H : Type) → List (DataW H) → Bool := fun _ ds => decide (uptoBulkAll ds ≤ 1048576)
def OpenSpec.upto (s : _root_.Go.ChangeSpec) : _root_.Go.OpenSpec := { _root_.Go.OpenSpec.ofChange s with cond := some uptoSmall }

/-- 'parlkeep2.ClosedUnion', WHERE WHAT IT READS IS OF BULK AT MOST 1048576: true; the input reads as it did. -/
def closedUnionUptoRow : OpenClaim := { program := "ytnlpeiffbnlncaadoor", sum := "43b937702cd7c1ee1dd089dcfd1cea0b9f222528fee9cb409ee96bc570027389", func := "parlance/parlkeep2.ClosedUnion", spec := "closedUnion", unfollowed := true, recurses := true, named := ["math/bits.deBruijn32tab"], plainKeys := false, apart := false, laid := [("math/bits.deBruijn32tab", laid_math_bits_deBruijn32tab)], narrowed := true }
def ClosedUnionUptoSaid : Prop := closedUnionUptoRow.holds Tryd.pinned (OpenSpec.upto closedUnionSpec)

/-- 'parlkeep2.GramTreesHaveMeaning', WHERE WHAT IT READS IS OF BULK AT MOST 1048576: true; the input reads as it did. -/
def gramTreesHaveMeaningUptoRow : OpenClaim := { program := "ytnlpeiffbnlncaadoor", sum := "43b937702cd7c1ee1dd089dcfd1cea0b9f222528fee9cb409ee96bc570027389", func := "parlance/parlkeep2.GramTreesHaveMeaning", spec := "gramTreesHaveMeaning", unfollowed := true, recurses := true, named := ["math/bits.deBruijn32tab"], plainKeys := false, apart := false, laid := [("math/bits.deBruijn32tab", laid_math_bits_deBruijn32tab)], narrowed := true }
def GramTreesHaveMeaningUptoSaid : Prop := gramTreesHaveMeaningUptoRow.holds Tryd.pinned (OpenSpec.upto gramTreesHaveMeaningSpec)

/-- 'parlkeep2.UsefulWords', WHERE WHAT IT READS IS OF BULK AT MOST 1048576: true; the input reads as it did. -/
def usefulWordsUptoRow : OpenClaim := { program := "ytnlpeiffbnlncaadoor", sum := "43b937702cd7c1ee1dd089dcfd1cea0b9f222528fee9cb409ee96bc570027389", func := "parlance/parlkeep2.UsefulWords", spec := "usefulWords", unfollowed := true, recurses := true, named := ["math/bits.deBruijn32tab"], plainKeys := false, apart := false, laid := [("math/bits.deBruijn32tab", laid_math_bits_deBruijn32tab)], narrowed := true }
def UsefulWordsUptoSaid : Prop := usefulWordsUptoRow.holds Tryd.pinned (OpenSpec.upto usefulWordsSpec)

/-- 'parlkeep2.ClosedReverse', WHERE WHAT IT READS IS OF BULK AT MOST 1048576: true; the input reads as it did. -/
def closedReverseUptoRow : OpenClaim := { program := "ytnlpeiffbnlncaadoor", sum := "43b937702cd7c1ee1dd089dcfd1cea0b9f222528fee9cb409ee96bc570027389", func := "parlance/parlkeep2.ClosedReverse", spec := "closedReverse", unfollowed := true, recurses := true, named := ["math/bits.deBruijn32tab"], plainKeys := false, apart := false, laid := [("math/bits.deBruijn32tab", laid_math_bits_deBruijn32tab)], narrowed := true }
def ClosedReverseUptoSaid : Prop := closedReverseUptoRow.holds Tryd.pinned (OpenSpec.upto closedReverseSpec)

/-- 'parlkeep2.CycleMany', WHERE WHAT IT READS IS OF BULK AT MOST 1048576: true; the input reads as it did. -/
def cycleManyUptoRow : OpenClaim := { program := "ytnlpeiffbnlncaadoor", sum := "43b937702cd7c1ee1dd089dcfd1cea0b9f222528fee9cb409ee96bc570027389", func := "parlance/parlkeep2.CycleMany", spec := "cycleMany", unfollowed := true, recurses := true, named := ["math/bits.deBruijn32tab"], plainKeys := false, apart := false, laid := [("math/bits.deBruijn32tab", laid_math_bits_deBruijn32tab)], narrowed := true }
def CycleManyUptoSaid : Prop := cycleManyUptoRow.holds Tryd.pinned (OpenSpec.upto cycleManySpec)

/-- 'parlkeep2.PrecUnambiguous', WHERE WHAT IT READS IS OF BULK AT MOST 1048576: true; the input reads as it did. -/
def precUnambiguousUptoRow : OpenClaim := { program := "ytnlpeiffbnlncaadoor", sum := "43b937702cd7c1ee1dd089dcfd1cea0b9f222528fee9cb409ee96bc570027389", func := "parlance/parlkeep2.PrecUnambiguous", spec := "precUnambiguous", unfollowed := true, recurses := true, named := ["math/bits.deBruijn32tab"], plainKeys := false, apart := false, laid := [("math/bits.deBruijn32tab", laid_math_bits_deBruijn32tab)], narrowed := true }
def PrecUnambiguousUptoSaid : Prop := precUnambiguousUptoRow.holds Tryd.pinned (OpenSpec.upto precUnambiguousSpec)

end Rows
end Go.Proofs.YtnlpeiffbnlncaaDoor
