/-
  NARROWER THAN 'FOR EVERY INPUT', by the rows' own cells (each row's printed sentence says how): NormalEmpty: laid · LayoutTokens: laid · InlineSays: laid · InlineMaps: loops, laid · LeftrecMaps: loops, laid · NormalSays: laid.
  DERIVED. THE GIVEN ROWS OF THIS SEAT. 6 by the template 'for every input the law returns true; each argument reads behind the call as it read before'; 0 by the template 'total and deterministic' (their statements: YtecofoilghdedaaDoorTotals.lean).
  GIVEN WITH THE SEED: the statements are not yours to turn. If you find one false, say at which input.
  Laid BY PROGRAM, IN A SANDBOX (cutbox-rows.mjs): the forced cells as the released guide's own fill.sh prints them over the translation 56b28c737b7dd9f2… (all of the seat's roots in one cut). By AI agents, Wed Nov 11 2026. No macro, syntax, notation, axiom, sorry.
-/
import Derived.Test.YtecofoilghdedaaDoorChecked
import GoSem.PinnedTables
import GoSem.Claim
import GoSem.ClaimJoined
import GoSem.ClaimMapViews
import Derived.JoinedTies
import Derived.KernelRfl
namespace Go.Proofs.YtecofoilghdedaaDoor
/- THE CELL 'sum', in the pinned program and in every row, IS THE sha256 OF THE DUMP (.gsa) THAT YtecofoilghdedaaDoorProg.lean LOADS. Nothing in Lean hashes anything: it is a label: what it is worth is what the hold of that sum in a sandbox is worth. -/
noncomputable def Tryd.pinned : Pinned := { name := "ytecofoilghdedaadoor", sum := "56b28c737b7dd9f2a08dd16aa1df29f0099a5d0dae2c89fd9b52defb37798bce", checked := Tryd.checked }
namespace Rows
def none {H : Type} : Left H := { results := [], args := [] }

/- WHAT THE LISTED PACKAGE-LEVEL VARIABLES READ AS WHEN THE CALL BEGINS. Each datum BY PROGRAM (the guide's laid-datum.mjs) off the statement by which the dump's own 'gosem.cut.vars' lays the variable. In a bare row this is a premise. The card (YtecofoilghdedaaDoorCards.lean) ties it to the program's text. -/
def laid_math_bits_deBruijn32tab {H : Type} : DataW H := .agg [.lit (.int .u8 0), .lit (.int .u8 1), .lit (.int .u8 28), .lit (.int .u8 2), .lit (.int .u8 29), .lit (.int .u8 14), .lit (.int .u8 24), .lit (.int .u8 3), .lit (.int .u8 30), .lit (.int .u8 22), .lit (.int .u8 20), .lit (.int .u8 15), .lit (.int .u8 25), .lit (.int .u8 17), .lit (.int .u8 4), .lit (.int .u8 8), .lit (.int .u8 31), .lit (.int .u8 27), .lit (.int .u8 13), .lit (.int .u8 23), .lit (.int .u8 21), .lit (.int .u8 19), .lit (.int .u8 16), .lit (.int .u8 7), .lit (.int .u8 26), .lit (.int .u8 12), .lit (.int .u8 18), .lit (.int .u8 6), .lit (.int .u8 11), .lit (.int .u8 5), .lit (.int .u8 10), .lit (.int .u8 9)]
def laid_unicode_utf8_acceptRanges {H : Type} : DataW H := .agg [.agg [.lit (.int .u8 128), .lit (.int .u8 191)], .agg [.lit (.int .u8 160), .lit (.int .u8 191)], .agg [.lit (.int .u8 128), .lit (.int .u8 159)], .agg [.lit (.int .u8 144), .lit (.int .u8 191)], .agg [.lit (.int .u8 128), .lit (.int .u8 143)], .agg [.lit (.int .u8 0), .lit (.int .u8 0)], .agg [.lit (.int .u8 0), .lit (.int .u8 0)], .agg [.lit (.int .u8 0), .lit (.int .u8 0)], .agg [.lit (.int .u8 0), .lit (.int .u8 0)], .agg [.lit (.int .u8 0), .lit (.int .u8 0)], .agg [.lit (.int .u8 0), .lit (.int .u8 0)], .agg [.lit (.int .u8 0), .lit (.int .u8 0)], .agg [.lit (.int .u8 0), .lit (.int .u8 0)], .agg [.lit (.int .u8 0), .lit (.int .u8 0)], .agg [.lit (.int .u8 0), .lit (.int .u8 0)], .agg [.lit (.int .u8 0), .lit (.int .u8 0)]]
/-- One of Go's own tables, pinned by name: the form's constant. -/
def laid_unicode_utf8_first : DataW Unit := Go.Pinned.utf8First
def laid_math_bits_deBruijn64tab {H : Type} : DataW H := .agg [.lit (.int .u8 0), .lit (.int .u8 1), .lit (.int .u8 56), .lit (.int .u8 2), .lit (.int .u8 57), .lit (.int .u8 49), .lit (.int .u8 28), .lit (.int .u8 3), .lit (.int .u8 61), .lit (.int .u8 58), .lit (.int .u8 42), .lit (.int .u8 50), .lit (.int .u8 38), .lit (.int .u8 29), .lit (.int .u8 17), .lit (.int .u8 4), .lit (.int .u8 62), .lit (.int .u8 47), .lit (.int .u8 59), .lit (.int .u8 36), .lit (.int .u8 45), .lit (.int .u8 43), .lit (.int .u8 51), .lit (.int .u8 22), .lit (.int .u8 53), .lit (.int .u8 39), .lit (.int .u8 33), .lit (.int .u8 30), .lit (.int .u8 24), .lit (.int .u8 18), .lit (.int .u8 12), .lit (.int .u8 5), .lit (.int .u8 63), .lit (.int .u8 55), .lit (.int .u8 48), .lit (.int .u8 27), .lit (.int .u8 60), .lit (.int .u8 41), .lit (.int .u8 37), .lit (.int .u8 16), .lit (.int .u8 46), .lit (.int .u8 35), .lit (.int .u8 44), .lit (.int .u8 21), .lit (.int .u8 52), .lit (.int .u8 32), .lit (.int .u8 23), .lit (.int .u8 11), .lit (.int .u8 54), .lit (.int .u8 26), .lit (.int .u8 40), .lit (.int .u8 15), .lit (.int .u8 34), .lit (.int .u8 20), .lit (.int .u8 31), .lit (.int .u8 10), .lit (.int .u8 25), .lit (.int .u8 14), .lit (.int .u8 19), .lit (.int .u8 9), .lit (.int .u8 13), .lit (.int .u8 8), .lit (.int .u8 7), .lit (.int .u8 6)]
def laid_internal_strconv_uint64pow10 {H : Type} : DataW H := .agg [.lit (.int .u64 1), .lit (.int .u64 10), .lit (.int .u64 100), .lit (.int .u64 1000), .lit (.int .u64 10000), .lit (.int .u64 100000), .lit (.int .u64 1000000), .lit (.int .u64 10000000), .lit (.int .u64 100000000), .lit (.int .u64 1000000000), .lit (.int .u64 10000000000), .lit (.int .u64 100000000000), .lit (.int .u64 1000000000000), .lit (.int .u64 10000000000000), .lit (.int .u64 100000000000000), .lit (.int .u64 1000000000000000), .lit (.int .u64 10000000000000000), .lit (.int .u64 100000000000000000), .lit (.int .u64 1000000000000000000), .lit (.int .u64 10000000000000000000)]

/-- 'parlkeep2.NormalEmpty': WHATEVER THE INPUT: true; the input reads as it did. -/
def normalEmptySpec : ChangeSpec := { name := "normalEmpty", fn := fun _ => fun
  | [d] => { results := [.lit (.bool true)], args := [d] }
  | _ => none }
def normalEmptyRow : OpenClaim := { program := "ytecofoilghdedaadoor", sum := "56b28c737b7dd9f2a08dd16aa1df29f0099a5d0dae2c89fd9b52defb37798bce", func := "parlance/parlkeep2.NormalEmpty", spec := "normalEmpty", unfollowed := true, recurses := true, named := ["math/bits.deBruijn32tab"], plainKeys := false, apart := false, laid := [("math/bits.deBruijn32tab", laid_math_bits_deBruijn32tab)] }
def NormalEmptySaid : Prop := normalEmptyRow.holds Tryd.pinned (OpenSpec.ofChange normalEmptySpec)

/-- ITS FALSE NEIGHBOUR: 'it returns false'. Refute it at one input. -/
def normalEmptyWrong : ChangeSpec := { name := "normalEmpty", fn := fun _ => fun
  | [d] => { results := [.lit (.bool false)], args := [d] }
  | _ => none }
def NormalEmptyWrongFalsely : Prop := normalEmptyRow.holds Tryd.pinned (OpenSpec.ofChange normalEmptyWrong)

/-- 'parllaw2.LayoutTokens': WHATEVER THE INPUT: true; the input reads as it did. -/
def layoutTokensSpec : ChangeSpec := { name := "layoutTokens", fn := fun _ => fun
  | [d1, d2, d3] => { results := [.lit (.bool true)], args := [d1, d2, d3] }
  | _ => none }
def layoutTokensRow : OpenClaim := { program := "ytecofoilghdedaadoor", sum := "56b28c737b7dd9f2a08dd16aa1df29f0099a5d0dae2c89fd9b52defb37798bce", func := "parlance/parllaw2.LayoutTokens", spec := "layoutTokens", inPlace := ["internal/bytealg.CountString", "internal/bytealg.IndexByteString", "internal/bytealg.IndexString"], unfollowed := true, recurses := true, named := ["unicode/utf8.first", "unicode/utf8.acceptRanges", "internal/bytealg.MaxLen"], plainKeys := false, apart := false, laid := [("unicode/utf8.acceptRanges", laid_unicode_utf8_acceptRanges), ("unicode/utf8.first", laid_unicode_utf8_first)] }
def LayoutTokensSaid : Prop := layoutTokensRow.holds Tryd.pinned (OpenSpec.ofChange layoutTokensSpec)

/-- ITS FALSE NEIGHBOUR: 'it returns false'. Refute it at one input. -/
def layoutTokensWrong : ChangeSpec := { name := "layoutTokens", fn := fun _ => fun
  | [d1, d2, d3] => { results := [.lit (.bool false)], args := [d1, d2, d3] }
  | _ => none }
def LayoutTokensWrongFalsely : Prop := layoutTokensRow.holds Tryd.pinned (OpenSpec.ofChange layoutTokensWrong)

/-- 'parllaw2.InlineSays': WHATEVER THE INPUT: true; the input reads as it did. -/
def inlineSaysSpec : ChangeSpec := { name := "inlineSays", fn := fun _ => fun
  | [d1, d2] => { results := [.lit (.bool true)], args := [d1, d2] }
  | _ => none }
def inlineSaysRow : OpenClaim := { program := "ytecofoilghdedaadoor", sum := "56b28c737b7dd9f2a08dd16aa1df29f0099a5d0dae2c89fd9b52defb37798bce", func := "parlance/parllaw2.InlineSays", spec := "inlineSays", unfollowed := true, recurses := true, named := ["internal/strconv.uint64pow10", "math/bits.deBruijn32tab", "math/bits.deBruijn64tab"], plainKeys := false, apart := false, laid := [("math/bits.deBruijn32tab", laid_math_bits_deBruijn32tab), ("math/bits.deBruijn64tab", laid_math_bits_deBruijn64tab), ("internal/strconv.uint64pow10", laid_internal_strconv_uint64pow10)] }
def InlineSaysSaid : Prop := inlineSaysRow.holds Tryd.pinned (OpenSpec.ofChange inlineSaysSpec)

/-- ITS FALSE NEIGHBOUR: 'it returns false'. Refute it at one input. -/
def inlineSaysWrong : ChangeSpec := { name := "inlineSays", fn := fun _ => fun
  | [d1, d2] => { results := [.lit (.bool false)], args := [d1, d2] }
  | _ => none }
def InlineSaysWrongFalsely : Prop := inlineSaysRow.holds Tryd.pinned (OpenSpec.ofChange inlineSaysWrong)

/-- 'parllaw2.InlineMaps': WHATEVER THE INPUT: true; the input reads as it did. -/
def inlineMapsSpec : ChangeSpec := { name := "inlineMaps", fn := fun _ => fun
  | [d1, d2, d3, d4] => { results := [.lit (.bool true)], args := [d1, d2, d3, d4] }
  | _ => none }
def inlineMapsRow : OpenClaim := { program := "ytecofoilghdedaadoor", sum := "56b28c737b7dd9f2a08dd16aa1df29f0099a5d0dae2c89fd9b52defb37798bce", func := "parlance/parllaw2.InlineMaps", spec := "inlineMaps", unfollowed := true, recurses := true, named := ["internal/strconv.uint64pow10", "math/bits.deBruijn32tab", "math/bits.deBruijn64tab"], loops := true, plainKeys := false, apart := false, laid := [("math/bits.deBruijn32tab", laid_math_bits_deBruijn32tab), ("math/bits.deBruijn64tab", laid_math_bits_deBruijn64tab), ("internal/strconv.uint64pow10", laid_internal_strconv_uint64pow10)] }
def InlineMapsSaid : Prop := inlineMapsRow.holds Tryd.pinned (OpenSpec.ofChange inlineMapsSpec)

/-- ITS FALSE NEIGHBOUR: 'it returns false'. Refute it at one input. -/
def inlineMapsWrong : ChangeSpec := { name := "inlineMaps", fn := fun _ => fun
  | [d1, d2, d3, d4] => { results := [.lit (.bool false)], args := [d1, d2, d3, d4] }
  | _ => none }
def InlineMapsWrongFalsely : Prop := inlineMapsRow.holds Tryd.pinned (OpenSpec.ofChange inlineMapsWrong)

/-- 'parllaw2.LeftrecMaps': WHATEVER THE INPUT: true; the input reads as it did. -/
def leftrecMapsSpec : ChangeSpec := { name := "leftrecMaps", fn := fun _ => fun
  | [d1, d2, d3] => { results := [.lit (.bool true)], args := [d1, d2, d3] }
  | _ => none }
def leftrecMapsRow : OpenClaim := { program := "ytecofoilghdedaadoor", sum := "56b28c737b7dd9f2a08dd16aa1df29f0099a5d0dae2c89fd9b52defb37798bce", func := "parlance/parllaw2.LeftrecMaps", spec := "leftrecMaps", unfollowed := true, recurses := true, named := ["internal/strconv.uint64pow10", "math/bits.deBruijn32tab", "math/bits.deBruijn64tab"], loops := true, plainKeys := false, apart := false, laid := [("math/bits.deBruijn32tab", laid_math_bits_deBruijn32tab), ("math/bits.deBruijn64tab", laid_math_bits_deBruijn64tab), ("internal/strconv.uint64pow10", laid_internal_strconv_uint64pow10)] }
def LeftrecMapsSaid : Prop := leftrecMapsRow.holds Tryd.pinned (OpenSpec.ofChange leftrecMapsSpec)

/-- ITS FALSE NEIGHBOUR: 'it returns false'. Refute it at one input. -/
def leftrecMapsWrong : ChangeSpec := { name := "leftrecMaps", fn := fun _ => fun
  | [d1, d2, d3] => { results := [.lit (.bool false)], args := [d1, d2, d3] }
  | _ => none }
def LeftrecMapsWrongFalsely : Prop := leftrecMapsRow.holds Tryd.pinned (OpenSpec.ofChange leftrecMapsWrong)

/-- 'parllaw2.NormalSays': WHATEVER THE INPUT: true; the input reads as it did. -/
def normalSaysSpec : ChangeSpec := { name := "normalSays", fn := fun _ => fun
  | [d] => { results := [.lit (.bool true)], args := [d] }
  | _ => none }
def normalSaysRow : OpenClaim := { program := "ytecofoilghdedaadoor", sum := "56b28c737b7dd9f2a08dd16aa1df29f0099a5d0dae2c89fd9b52defb37798bce", func := "parlance/parllaw2.NormalSays", spec := "normalSays", unfollowed := true, recurses := true, named := ["internal/strconv.uint64pow10", "math/bits.deBruijn32tab", "math/bits.deBruijn64tab"], plainKeys := false, apart := false, laid := [("math/bits.deBruijn32tab", laid_math_bits_deBruijn32tab), ("math/bits.deBruijn64tab", laid_math_bits_deBruijn64tab), ("internal/strconv.uint64pow10", laid_internal_strconv_uint64pow10)] }
def NormalSaysSaid : Prop := normalSaysRow.holds Tryd.pinned (OpenSpec.ofChange normalSaysSpec)

/-- ITS FALSE NEIGHBOUR: 'it returns false'. Refute it at one input. -/
def normalSaysWrong : ChangeSpec := { name := "normalSays", fn := fun _ => fun
  | [d] => { results := [.lit (.bool false)], args := [d] }
  | _ => none }
def NormalSaysWrongFalsely : Prop := normalSaysRow.holds Tryd.pinned (OpenSpec.ofChange normalSaysWrong)

/- THE SECOND FORM. 'bulk': how many values and letters a reading holds, each counted each time it is reached (what is shared counts as often as it is met; a slice's spare places count too). A statement '..UptoSaid' is the law's where the arguments, and the package variables that the reading takes, are together of bulk at most 1048576: NARROWER than '..Said'. Prove '..Said' where nothing that the law and all that it calls make is longer than what came in: it says more and counts as full. Else prove '..UptoSaid'. A law counts once. -/
mutual
def uptoBulk {H : Type} : DataW H → Nat
  | .lit (.string bytes) => bytes.length + 1
  | .lit _ => 1
  | .nil => 1
  | .ptr d => uptoBulk d + 1
  | .slice elems spare => uptoBulkAll elems + uptoBulkAll spare + 1
  | .agg parts => uptoBulkAll parts + 1
  | .iface _ d => uptoBulk d + 1
  | .map entries => uptoBulkEntries entries + 1
  | .held _ => 1
def uptoBulkAll {H : Type} : List (DataW H) → Nat
  | [] => 0
  | d :: r => uptoBulk d + uptoBulkAll r
def uptoBulkEntries {H : Type} : List (Lit × DataW H) → Nat
  | [] => 0
  | x :: r => uptoBulkEntry x + uptoBulkEntries r
def uptoBulkEntry {H : Type} : Lit × DataW H → Nat
  | (.string bytes, d) => bytes.length + uptoBulk d + 1
  | (_, d) => uptoBulk d + 1
 end
def uptoSmall : (H : Type) → List (DataW H) → Bool := fun _ ds => decide (uptoBulkAll ds ≤ 1048576)
def OpenSpec.upto (s : _root_.Go.ChangeSpec) : _root_.Go.OpenSpec := { _root_.Go.OpenSpec.ofChange s with cond := some uptoSmall }

/-- 'parlkeep2.NormalEmpty', WHERE WHAT IT READS IS OF BULK AT MOST 1048576: true; the input reads as it did. -/
def normalEmptyUptoRow : OpenClaim := { program := "ytecofoilghdedaadoor", sum := "56b28c737b7dd9f2a08dd16aa1df29f0099a5d0dae2c89fd9b52defb37798bce", func := "parlance/parlkeep2.NormalEmpty", spec := "normalEmpty", unfollowed := true, recurses := true, named := ["math/bits.deBruijn32tab"], plainKeys := false, apart := false, laid := [("math/bits.deBruijn32tab", laid_math_bits_deBruijn32tab)], narrowed := true }
def NormalEmptyUptoSaid : Prop := normalEmptyUptoRow.holds Tryd.pinned (OpenSpec.upto normalEmptySpec)

/-- 'parllaw2.LayoutTokens', WHERE WHAT IT READS IS OF BULK AT MOST 1048576: true; the input reads as it did. -/
def layoutTokensUptoRow : OpenClaim := { program := "ytecofoilghdedaadoor", sum := "56b28c737b7dd9f2a08dd16aa1df29f0099a5d0dae2c89fd9b52defb37798bce", func := "parlance/parllaw2.LayoutTokens", spec := "layoutTokens", inPlace := ["internal/bytealg.CountString", "internal/bytealg.IndexByteString", "internal/bytealg.IndexString"], unfollowed := true, recurses := true, named := ["unicode/utf8.first", "unicode/utf8.acceptRanges", "internal/bytealg.MaxLen"], plainKeys := false, apart := false, laid := [("unicode/utf8.acceptRanges", laid_unicode_utf8_acceptRanges), ("unicode/utf8.first", laid_unicode_utf8_first)], narrowed := true }
def LayoutTokensUptoSaid : Prop := layoutTokensUptoRow.holds Tryd.pinned (OpenSpec.upto layoutTokensSpec)

/-- 'parllaw2.InlineSays', WHERE WHAT IT READS IS OF BULK AT MOST 1048576: true; the input reads as it did. -/
def inlineSaysUptoRow : OpenClaim := { program := "ytecofoilghdedaadoor", sum := "56b28c737b7dd9f2a08dd16aa1df29f0099a5d0dae2c89fd9b52defb37798bce", func := "parlance/parllaw2.InlineSays", spec := "inlineSays", unfollowed := true, recurses := true, named := ["internal/strconv.uint64pow10", "math/bits.deBruijn32tab", "math/bits.deBruijn64tab"], plainKeys := false, apart := false, laid := [("math/bits.deBruijn32tab", laid_math_bits_deBruijn32tab), ("math/bits.deBruijn64tab", laid_math_bits_deBruijn64tab), ("internal/strconv.uint64pow10", laid_internal_strconv_uint64pow10)], narrowed := true }
def InlineSaysUptoSaid : Prop := inlineSaysUptoRow.holds Tryd.pinned (OpenSpec.upto inlineSaysSpec)

/-- 'parllaw2.InlineMaps', WHERE WHAT IT READS IS OF BULK AT MOST 1048576: true; the input reads as it did. -/
def inlineMapsUptoRow : OpenClaim := { program := "ytecofoilghdedaadoor", sum := "56b28c737b7dd9f2a08dd16aa1df29f0099a5d0dae2c89fd9b52defb37798bce", func := "parlance/parllaw2.InlineMaps", spec := "inlineMaps", unfollowed := true, recurses := true, named := ["internal/strconv.uint64pow10", "math/bits.deBruijn32tab", "math/bits.deBruijn64tab"], loops := true, plainKeys := false, apart := false, laid := [("math/bits.deBruijn32tab", laid_math_bits_deBruijn32tab), ("math/bits.deBruijn64tab", laid_math_bits_deBruijn64tab), ("internal/strconv.uint64pow10", laid_internal_strconv_uint64pow10)], narrowed := true }
def InlineMapsUptoSaid : Prop := inlineMapsUptoRow.holds Tryd.pinned (OpenSpec.upto inlineMapsSpec)

/-- 'parllaw2.LeftrecMaps', WHERE WHAT IT READS IS OF BULK AT MOST 1048576: true; the input reads as it did. -/
def leftrecMapsUptoRow : OpenClaim := { program := "ytecofoilghdedaadoor", sum := "56b28c737b7dd9f2a08dd16aa1df29f0099a5d0dae2c89fd9b52defb37798bce", func := "parlance/parllaw2.LeftrecMaps", spec := "leftrecMaps", unfollowed := true, recurses := true, named := ["internal/strconv.uint64pow10", "math/bits.deBruijn32tab", "math/bits.deBruijn64tab"], loops := true, plainKeys := false, apart := false, laid := [("math/bits.deBruijn32tab", laid_math_bits_deBruijn32tab), ("math/bits.deBruijn64tab", laid_math_bits_deBruijn64tab), ("internal/strconv.uint64pow10", laid_internal_strconv_uint64pow10)], narrowed := true }
def LeftrecMapsUptoSaid : Prop := leftrecMapsUptoRow.holds Tryd.pinned (OpenSpec.upto leftrecMapsSpec)

/-- 'parllaw2.NormalSays', WHERE WHAT IT READS IS OF BULK AT MOST 1048576: true; the input reads as it did. -/
def normalSaysUptoRow : OpenClaim := { program := "ytecofoilghdedaadoor", sum := "56b28c737b7dd9f2a08dd16aa1df29f0099a5d0dae2c89fd9b52defb37798bce", func := "parlance/parllaw2.NormalSays", spec := "normalSays", unfollowed := true, recurses := true, named := ["internal/strconv.uint64pow10", "math/bits.deBruijn32tab", "math/bits.deBruijn64tab"], plainKeys := false, apart := false, laid := [("math/bits.deBruijn32tab", laid_math_bits_deBruijn32tab), ("math/bits.deBruijn64tab", laid_math_bits_deBruijn64tab), ("internal/strconv.uint64pow10", laid_internal_strconv_uint64pow10)], narrowed := true }
def NormalSaysUptoSaid : Prop := normalSaysUptoRow.holds Tryd.pinned (OpenSpec.upto normalSaysSpec)

end Rows
end Go.Proofs.YtecofoilghdedaaDoor
