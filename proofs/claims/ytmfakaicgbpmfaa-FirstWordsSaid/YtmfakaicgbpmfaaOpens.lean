/- What the seat's own types read as. -/
import Derived.Test.YtmfakaicgbpmfaaOpen
import Derived.Test.YtmfakaicgbpmfaaChecked
namespace Go.Proofs.Ytmfakaicgbpmfaa
open Go.RowKit
theorem opensSym : Opens Try.prog Sym 23 := opens_sym Try.underlying23 (by kernel_rfl) (by kernel_rfl) (opens_bool Try.underlying4) (opens_int Try.underlying3)
theorem opensSyms : Opens Try.prog (List Sym) 24 := opens_slice Try.underlying24 (by kernel_rfl) opensSym
theorem opensRule : Opens Try.prog Rule 26 := opens_rule Try.underlying26 (by kernel_rfl) (by kernel_rfl) (opens_int Try.underlying3) opensSyms
theorem opensRules : Opens Try.prog (List Rule) 33 := opens_slice Try.underlying33 (by kernel_rfl) opensRule
theorem opensGram : Opens Try.prog Gram 35 := opens_gram Try.underlying35 (by kernel_rfl) (by kernel_rfl) (opens_int Try.underlying3) (opens_int Try.underlying3) (opens_int Try.underlying3) opensRules
theorem opensInts : Opens Try.prog (List Int) 32 := opens_slice Try.underlying32 (by kernel_rfl) (opens_int Try.underlying3)
end Go.Proofs.Ytmfakaicgbpmfaa
