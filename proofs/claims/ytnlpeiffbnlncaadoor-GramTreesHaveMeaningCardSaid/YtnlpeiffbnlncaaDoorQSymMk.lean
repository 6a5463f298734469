/- gram.T and gram.N and their kin: a symbol is returned. -/
import Derived.Test.YtnlpeiffbnlncaaDoorQp1
namespace Go.Proofs.YtnlpeiffbnlncaaDoor
open Go.RowKit
set_option linter.unusedVariables false

theorem t_any (n : Int) (w : World) : Calls Tryd.prog 93 #[.int .i64 n] w fun e w' => e = .returned (.agg #[.bool true, .int .i64 n]) ∧ Below w.heap.size w w' := by
  go_enter Tryd.func93, Tryd.ntmps93
  go_wp2
  exact bodyPost_ret (v := .agg #[.bool true, .int .i64 n]) (by simp [results, Tryd.results93, go_sem]) rfl ⟨rfl, (Below.refl _ _).alloc (Nat.le_refl _) _⟩
theorem n_any (n : Int) (w : World) : Calls Tryd.prog 69 #[.int .i64 n] w fun e w' => e = .returned (.agg #[.bool false, .int .i64 n]) ∧ Below w.heap.size w w' := by
  go_enter Tryd.func69, Tryd.ntmps69
  go_wp2
  exact bodyPost_ret (v := .agg #[.bool false, .int .i64 n]) (by simp [results, Tryd.results69, go_sem]) rfl ⟨rfl, (Below.refl _ _).alloc (Nat.le_refl _) _⟩
end Go.Proofs.YtnlpeiffbnlncaaDoor
