/- What the seat's own types read as. -/
import Derived.Test.YtehndgmgljlioaaDoorOpen
import Derived.Test.YtehndgmgljlioaaDoorChecked
namespace Go.Proofs.YtehndgmgljlioaaDoor
open Go.RowKit
theorem opensSym : Opens Tryd.prog Sym 31 := opens_sym Tryd.underlying31 (by kernel_rfl) (by kernel_rfl) (opens_bool Tryd.underlying4) (opens_int Tryd.underlying3)
theorem opensSyms : Opens Tryd.prog (List Sym) 34 := opens_slice Tryd.underlying34 (by kernel_rfl) opensSym
theorem opensRule : Opens Tryd.prog Rule 36 := opens_rule Tryd.underlying36 (by kernel_rfl) (by kernel_rfl) (opens_int Tryd.underlying3) opensSyms
theorem opensRules : Opens Tryd.prog (List Rule) 22 := opens_slice Tryd.underlying22 (by kernel_rfl) opensRule
theorem opensGram : Opens Tryd.prog Gram 24 := opens_gram Tryd.underlying24 (by kernel_rfl) (by kernel_rfl) (opens_int Tryd.underlying3) (opens_int Tryd.underlying3) (opens_int Tryd.underlying3) opensRules
theorem opensInts : Opens Tryd.prog (List Int) 58 := opens_slice Tryd.underlying58 (by kernel_rfl) (opens_int Tryd.underlying3)
end Go.Proofs.YtehndgmgljlioaaDoor
