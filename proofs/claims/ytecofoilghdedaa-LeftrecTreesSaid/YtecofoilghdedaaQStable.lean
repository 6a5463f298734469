/- Sets of a grammar that its rules leave as they are. -/
import Derived.Test.YtecofoilghdedaaQp1
import Derived.Test.YtecofoilghdedaaQValid
namespace Go.Proofs.Ytecofoilghdedaa
open Go.RowKit
set_option linter.unusedVariables false

/-- Sets that the rules leave as they are. -/
structure Stable (g : Gram) (m n : Nat) (e : List Bool) (f : List (List Bool)) : Prop where
  shape : Shape m n (e, f)
  iter : ∃ k, (e, f) = iterR m g.rules k (initS m n)
  fix : ∀ q ∈ g.rules, stepR m q (e, f) = (e, f)

theorem Stable.closed {g : Gram} {m n : Nat} {e : List Bool} {f : List (List Bool)} (h : Stable g m n e f) (hn : g.nons = (n : Int)) (hv : ValidG g) : ClosedS g m e f :=
  closed_of (by have := h.shape; rw [hn]; simpa using this) (fun q hq => by have := hv.rules q hq; omega) h.fix
theorem ValidG.symIn {g : Gram} (hv : ValidG g) {m : Nat} (hm : g.terms = (m : Int)) : ∀ q ∈ g.rules, ∀ s ∈ q.right, SymIn m g s := fun q hq s hs => by
  have h := (hv.rules q hq).2.2.2 s hs
  rw [hm] at h
  exact h
end Go.Proofs.Ytecofoilghdedaa
