/- What the seat's own types read as. -/
import Derived.Test.YtlbhaegdcpacpaaDoorOpen
import Derived.Test.YtlbhaegdcpacpaaDoorChecked
namespace Go.Proofs.YtlbhaegdcpacpaaDoor
open Go.RowKit
theorem opensSym : Opens Tryd.prog Sym 33 := opens_sym Tryd.underlying33 (by kernel_rfl) (by kernel_rfl) (opens_bool Tryd.underlying4) (opens_int Tryd.underlying3)
theorem opensSyms : Opens Tryd.prog (List Sym) 39 := opens_slice Tryd.underlying39 (by kernel_rfl) opensSym
theorem opensRule : Opens Tryd.prog Rule 69 := opens_rule Tryd.underlying69 (by kernel_rfl) (by kernel_rfl) (opens_int Tryd.underlying3) opensSyms
theorem opensRules : Opens Tryd.prog (List Rule) 22 := opens_slice Tryd.underlying22 (by kernel_rfl) opensRule
theorem opensGram : Opens Tryd.prog Gram 24 := opens_gram Tryd.underlying24 (by kernel_rfl) (by kernel_rfl) (opens_int Tryd.underlying3) (opens_int Tryd.underlying3) (opens_int Tryd.underlying3) opensRules
theorem opensInts : Opens Tryd.prog (List Int) 36 := opens_slice Tryd.underlying36 (by kernel_rfl) (opens_int Tryd.underlying3)
end Go.Proofs.YtlbhaegdcpacpaaDoor
