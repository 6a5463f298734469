/- What the seat's own types read as. -/
import Derived.Test.YtabehgggahnopaaOpen
import Derived.Test.YtabehgggahnopaaChecked
namespace Go.Proofs.Ytabehgggahnopaa
open Go.RowKit
theorem opensSym : Opens Try.prog Sym 95 := opens_sym Try.underlying95 (by kernel_rfl) (by kernel_rfl) (opens_bool Try.underlying4) (opens_int Try.underlying3)
theorem opensSyms : Opens Try.prog (List Sym) 91 := opens_slice Try.underlying91 (by kernel_rfl) opensSym
theorem opensRule : Opens Try.prog Rule 93 := opens_rule Try.underlying93 (by kernel_rfl) (by kernel_rfl) (opens_int Try.underlying3) opensSyms
theorem opensRules : Opens Try.prog (List Rule) 47 := opens_slice Try.underlying47 (by kernel_rfl) opensRule
theorem opensGram : Opens Try.prog Gram 49 := opens_gram Try.underlying49 (by kernel_rfl) (by kernel_rfl) (opens_int Try.underlying3) (opens_int Try.underlying3) (opens_int Try.underlying3) opensRules
theorem opensInts : Opens Try.prog (List Int) 38 := opens_slice Try.underlying38 (by kernel_rfl) (opens_int Try.underlying3)
end Go.Proofs.Ytabehgggahnopaa
