/- gram.T and gram.N and their kin: a symbol is returned. -/
import Derived.Test.YtpkfalhpkkponaaDoorElem
namespace Go.Proofs.YtpkfalhpkkponaaDoor
open Go.RowKit
set_option linter.unusedVariables false

theorem n_any (n : Int) (w : World) : Calls Tryd.prog 47 #[.int .i64 n] w fun e w' => e = .returned (.agg #[.bool false, .int .i64 n]) ∧ Below w.heap.size w w' := by
  go_enter Tryd.func47, Tryd.ntmps47
  go_wp2
  exact bodyPost_ret (v := .agg #[.bool false, .int .i64 n]) (by simp [results, Tryd.results47, go_sem]) rfl ⟨rfl, (Below.refl _ _).alloc (Nat.le_refl _) _⟩
end Go.Proofs.YtpkfalhpkkponaaDoor
