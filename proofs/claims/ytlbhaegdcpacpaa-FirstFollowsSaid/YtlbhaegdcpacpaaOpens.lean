/- What the seat's own types read as. -/
import Derived.Test.YtlbhaegdcpacpaaOpen
import Derived.Test.YtlbhaegdcpacpaaChecked
namespace Go.Proofs.Ytlbhaegdcpacpaa
open Go.RowKit
theorem opensSym : Opens Try.prog Sym 88 := opens_sym Try.underlying88 (by kernel_rfl) (by kernel_rfl) (opens_bool Try.underlying4) (opens_int Try.underlying3)
theorem opensSyms : Opens Try.prog (List Sym) 57 := opens_slice Try.underlying57 (by kernel_rfl) opensSym
theorem opensRule : Opens Try.prog Rule 59 := opens_rule Try.underlying59 (by kernel_rfl) (by kernel_rfl) (opens_int Try.underlying3) opensSyms
theorem opensRules : Opens Try.prog (List Rule) 36 := opens_slice Try.underlying36 (by kernel_rfl) opensRule
theorem opensGram : Opens Try.prog Gram 38 := opens_gram Try.underlying38 (by kernel_rfl) (by kernel_rfl) (opens_int Try.underlying3) (opens_int Try.underlying3) (opens_int Try.underlying3) opensRules
theorem opensInts : Opens Try.prog (List Int) 39 := opens_slice Try.underlying39 (by kernel_rfl) (opens_int Try.underlying3)
end Go.Proofs.Ytlbhaegdcpacpaa
