/- What the seat's own types read as. -/
import Derived.Test.YtlgchgpplfhneaaDoorOpen
import Derived.Test.YtlgchgpplfhneaaDoorChecked
namespace Go.Proofs.YtlgchgpplfhneaaDoor
open Go.RowKit
theorem opensSym : Opens Tryd.prog Sym 54 := opens_sym Tryd.underlying54 (by kernel_rfl) (by kernel_rfl) (opens_bool Tryd.underlying4) (opens_int Tryd.underlying3)
theorem opensSyms : Opens Tryd.prog (List Sym) 50 := opens_slice Tryd.underlying50 (by kernel_rfl) opensSym
theorem opensRule : Opens Tryd.prog Rule 52 := opens_rule Tryd.underlying52 (by kernel_rfl) (by kernel_rfl) (opens_int Tryd.underlying3) opensSyms
theorem opensRules : Opens Tryd.prog (List Rule) 23 := opens_slice Tryd.underlying23 (by kernel_rfl) opensRule
theorem opensGram : Opens Tryd.prog Gram 25 := opens_gram Tryd.underlying25 (by kernel_rfl) (by kernel_rfl) (opens_int Tryd.underlying3) (opens_int Tryd.underlying3) (opens_int Tryd.underlying3) opensRules
theorem opensInts : Opens Tryd.prog (List Int) 22 := opens_slice Tryd.underlying22 (by kernel_rfl) (opens_int Tryd.underlying3)
end Go.Proofs.YtlgchgpplfhneaaDoor
