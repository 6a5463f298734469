/-
  No cell of these rows narrows 'for every input' (looked for: loops, veiled, ifaces, maps, wideKeys, modest, calm, conditions, laid).
  DERIVED. THE GIVEN ROWS OF THIS SEAT. 3 by the template 'for every input the law returns true; each argument reads behind the call as it read before'; 0 by the template 'total and deterministic' (their statements: YtjdojogjogenkaaTotals.lean).
  GIVEN WITH THE SEED: the statements are not yours to turn. If you find one false, say at which input.
  Laid BY PROGRAM, IN A SANDBOX (cutbox-rows.mjs): the forced cells as the released guide's own fill.sh prints them over the translation 7966151c6a4f20bb… (all of the seat's roots in one cut). By AI agents, Wed Nov 11 2026. No macro, syntax, notation, axiom, sorry.
-/
import Derived.Test.YtjdojogjogenkaaChecked
import GoSem.Claim
import GoSem.ClaimJoined
import GoSem.ClaimMapViews
import Derived.JoinedTies
import Derived.KernelRfl
namespace Go.Proofs.Ytjdojogjogenkaa
/- THE CELL 'sum', in the pinned program and in every row, IS THE sha256 OF THE DUMP (.gsa) THAT YtjdojogjogenkaaProg.lean LOADS. Nothing in Lean hashes anything: it is a label: what it is worth is what the hold of that sum in a sandbox is worth. -/
noncomputable def Try.pinned : Pinned := { name := "ytjdojogjogenkaa", sum := "7966151c6a4f20bb7df6733d71b9ed624cb8cc82e7b786e9aaf592e0a3b6b44f", checked := Try.checked }
namespace Rows
def none {H : Type} : Left H := { results := [], args := [] }

/-- 'parlkeep2.FactorForm': WHATEVER THE INPUT: true; the input reads as it did. -/
def factorFormSpec : ChangeSpec := { name := "factorForm", fn := fun _ => fun
  | [d] => { results := [.lit (.bool true)], args := [d] }
  | _ => none }
def factorFormRow : OpenClaim := { program := "ytjdojogjogenkaa", sum := "7966151c6a4f20bb7df6733d71b9ed624cb8cc82e7b786e9aaf592e0a3b6b44f", func := "parlance/parlkeep2.FactorForm", spec := "factorForm", unfollowed := true, recurses := true, apart := false }
def FactorFormSaid : Prop := factorFormRow.holds Try.pinned (OpenSpec.ofChange factorFormSpec)

/-- ITS FALSE NEIGHBOUR: 'it returns false'. Refute it at one input. -/
def factorFormWrong : ChangeSpec := { name := "factorForm", fn := fun _ => fun
  | [d] => { results := [.lit (.bool false)], args := [d] }
  | _ => none }
def FactorFormWrongFalsely : Prop := factorFormRow.holds Try.pinned (OpenSpec.ofChange factorFormWrong)

/-- 'parlkeep2.FactorTrees': WHATEVER THE INPUT: true; the input reads as it did. -/
def factorTreesSpec : ChangeSpec := { name := "factorTrees", fn := fun _ => fun
  | [d1, d2] => { results := [.lit (.bool true)], args := [d1, d2] }
  | _ => none }
def factorTreesRow : OpenClaim := { program := "ytjdojogjogenkaa", sum := "7966151c6a4f20bb7df6733d71b9ed624cb8cc82e7b786e9aaf592e0a3b6b44f", func := "parlance/parlkeep2.FactorTrees", spec := "factorTrees", unfollowed := true, recurses := true, apart := false }
def FactorTreesSaid : Prop := factorTreesRow.holds Try.pinned (OpenSpec.ofChange factorTreesSpec)

/-- ITS FALSE NEIGHBOUR: 'it returns false'. Refute it at one input. -/
def factorTreesWrong : ChangeSpec := { name := "factorTrees", fn := fun _ => fun
  | [d1, d2] => { results := [.lit (.bool false)], args := [d1, d2] }
  | _ => none }
def FactorTreesWrongFalsely : Prop := factorTreesRow.holds Try.pinned (OpenSpec.ofChange factorTreesWrong)

/-- 'parlkeep2.InlineTrees': WHATEVER THE INPUT: true; the input reads as it did. -/
def inlineTreesSpec : ChangeSpec := { name := "inlineTrees", fn := fun _ => fun
  | [d1, d2, d3] => { results := [.lit (.bool true)], args := [d1, d2, d3] }
  | _ => none }
def inlineTreesRow : OpenClaim := { program := "ytjdojogjogenkaa", sum := "7966151c6a4f20bb7df6733d71b9ed624cb8cc82e7b786e9aaf592e0a3b6b44f", func := "parlance/parlkeep2.InlineTrees", spec := "inlineTrees", unfollowed := true, recurses := true, apart := false }
def InlineTreesSaid : Prop := inlineTreesRow.holds Try.pinned (OpenSpec.ofChange inlineTreesSpec)

/-- ITS FALSE NEIGHBOUR: 'it returns false'. Refute it at one input. -/
def inlineTreesWrong : ChangeSpec := { name := "inlineTrees", fn := fun _ => fun
  | [d1, d2, d3] => { results := [.lit (.bool false)], args := [d1, d2, d3] }
  | _ => none }
def InlineTreesWrongFalsely : Prop := inlineTreesRow.holds Try.pinned (OpenSpec.ofChange inlineTreesWrong)

/- THE SECOND FORM. 'bulk': how many values and letters a reading holds, each counted each time it is reached (what is shared counts as often as it is met; a slice's spare places count too). A statement '..UptoSaid' is the law's where the arguments, and the package variables that the reading takes, are together of bulk at most 1048576: NARROWER than '..Said'. Prove '..Said' where nothing that the law and all that it calls make is longer than what came in: it says more and counts as full. Else prove '..UptoSaid'. A law counts once. -/
mutual
def uptoBulk {H : Type} : DataW H → Nat
  | .lit (.string bytes) => bytes.length + 1
  | .lit _ => 1
  | .nil => 1
  | .ptr d => uptoBulk d + 1
  | .slice elems spare => uptoBulkAll elems + uptoBulkAll spare + 1
  | .agg parts => uptoBulkAll parts + 1
  | .iface _ d => uptoBulk d + 1
  | .map entries => uptoBulkEntries entries + 1
  | .held _ => 1
def uptoBulkAll {H : Type} : List (DataW H) → Nat
  | [] => 0
  | d :: r => uptoBulk d + uptoBulkAll r
def uptoBulkEntries {H : Type} : List (Lit × DataW H) → Nat
  | [] => 0
  | x :: r => uptoBulkEntry x + uptoBulkEntries r
def uptoBulkEntry {H : Type} : Lit × DataW H → Nat
  | (.string bytes, d) => bytes.length + uptoBulk d + 1
  | (_, d) => uptoBulk d + 1
 end
def uptoSmall : (H : Type) → List (DataW H) → Bool := fun _ ds => decide (uptoBulkAll ds ≤ 1048576)
def OpenSpec.upto (s : _root_.Go.ChangeSpec) : _root_.Go.OpenSpec := { _root_.Go.OpenSpec.ofChange s with cond := some uptoSmall }

/-- 'parlkeep2.FactorForm', WHERE WHAT IT READS IS OF BULK AT MOST 1048576: true; the input reads as it did. -/
def factorFormUptoRow : OpenClaim := { program := "ytjdojogjogenkaa", sum := "7966151c6a4f20bb7df6733d71b9ed624cb8cc82e7b786e9aaf592e0a3b6b44f", func := "parlance/parlkeep2.FactorForm", spec := "factorForm", unfollowed := true, recurses := true, apart := false, narrowed := true }
def FactorFormUptoSaid : Prop := factorFormUptoRow.holds Try.pinned (OpenSpec.upto factorFormSpec)

/-- 'parlkeep2.FactorTrees', WHERE WHAT IT READS IS OF BULK AT MOST 1048576: true; the input reads as it did. -/
def factorTreesUptoRow : OpenClaim := { program := "ytjdojogjogenkaa", sum := "7966151c6a4f20bb7df6733d71b9ed624cb8cc82e7b786e9aaf592e0a3b6b44f", func := "parlance/parlkeep2.FactorTrees", spec := "factorTrees", unfollowed := true, recurses := true, apart := false, narrowed := true }
def FactorTreesUptoSaid : Prop := factorTreesUptoRow.holds Try.pinned (OpenSpec.upto factorTreesSpec)

/-- 'parlkeep2.InlineTrees', WHERE WHAT IT READS IS OF BULK AT MOST 1048576: true; the input reads as it did. -/
def inlineTreesUptoRow : OpenClaim := { program := "ytjdojogjogenkaa", sum := "7966151c6a4f20bb7df6733d71b9ed624cb8cc82e7b786e9aaf592e0a3b6b44f", func := "parlance/parlkeep2.InlineTrees", spec := "inlineTrees", unfollowed := true, recurses := true, apart := false, narrowed := true }
def InlineTreesUptoSaid : Prop := inlineTreesUptoRow.holds Try.pinned (OpenSpec.upto inlineTreesSpec)

end Rows
end Go.Proofs.Ytjdojogjogenkaa
