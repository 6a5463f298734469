/- The numbers of the rules that a predicate names; a valid grammar's number of rules. -/
import Derived.Test.YtnlpeiffbnlncaaDoorQp1
import Derived.Test.YtnlpeiffbnlncaaDoorQCheck
namespace Go.Proofs.YtnlpeiffbnlncaaDoor
open Go.RowKit
set_option linter.unusedVariables false

def whereFrom (p : Rule → Bool) : Nat → List Rule → List Int
  | _, [] => []
  | k, r :: rs => if p r then (k : Int) :: whereFrom p (k + 1) rs else whereFrom p (k + 1) rs
def whereE (g : Gram) (n : Int) : Int := if checkI g ≠ 0 then checkI g else if n < 0 ∨ g.nons ≤ n then 1 else 0
def whereL (g : Gram) (n : Int) (p : Rule → Bool) : List Int := if whereE g n = 0 then whereFrom p 0 g.rules else []
theorem whereFrom_len (p : Rule → Bool) : ∀ (k : Nat) (rs : List Rule), (whereFrom p k rs).length ≤ rs.length
  | _, [] => by simp [whereFrom]
  | k, r :: rs => by
    have := whereFrom_len p (k + 1) rs
    unfold whereFrom; split <;> simp <;> omega
/-- A row of numbers of the call's own, and an error number. -/
def RetInts (w : World) (l : List Int) (er : Int) (e : Ending) (w' : World) : Prop :=
  ∃ v, e = .returned (.tuple #[v, .int .i64 er]) ∧ Own w' (fun _ => False) w.heap.size 3 v l ∧ Below w.heap.size w w'
theorem checkI_nonneg_len {g : Gram} (h : checkI g = 0) : g.rules.length ≤ 32 := by
  unfold checkI at h
  split at h
  · omega
  · split at h <;> omega
end Go.Proofs.YtnlpeiffbnlncaaDoor
