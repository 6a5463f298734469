/- The rules of a valid grammar name nonterminals of the grammar. No program is named here. -/
import Derived.Test.YtnlpeiffbnlncaaDoorQp2
import Derived.Test.YtnlpeiffbnlncaaDoorQValid
namespace Go.Proofs.YtnlpeiffbnlncaaDoor
set_option linter.unusedVariables false

theorem ValidG.rulesIn {g : Gram} (h : ValidG g) {n : Nat} (hn : g.nons = (n : Int)) : RulesIn g n := fun q hq => by
  obtain ⟨h1, h2, h3, h4⟩ := h.rules q hq
  refine ⟨h1, by omega, h3, fun s hs => ⟨(h4 s hs).1, fun ht => ?_⟩⟩
  have := (h4 s hs).2
  rw [ht] at this
  simp at this
  have := (h4 s hs).1
  omega

end Go.Proofs.YtnlpeiffbnlncaaDoor
