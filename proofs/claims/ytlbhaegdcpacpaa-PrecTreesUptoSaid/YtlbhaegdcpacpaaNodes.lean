/- How many nodes a tree has. No program is named here. -/
import Derived.Test.YtlbhaegdcpacpaaFirstP
namespace Go.Proofs.Ytlbhaegdcpacpaa
set_option linter.unusedVariables false

mutual
def nodesT : Tree → Nat
  | ⟨_, _, ks⟩ => 1 + nodesL ks
def nodesL : List Tree → Nat
  | [] => 0
  | k :: ks => nodesT k + nodesL ks
end
theorem nodesL_append : ∀ (a b : List Tree), nodesL (a ++ b) = nodesL a + nodesL b
  | [], b => by simp [nodesL]
  | x :: a, b => by simp only [List.cons_append, nodesL, nodesL_append a b]; omega
theorem yields_append : ∀ (a b : List Tree), yields (a ++ b) = yields a ++ yields b
  | [], b => by simp [yields]
  | x :: a, b => by simp only [List.cons_append, yields, yields_append a b, List.append_assoc]
theorem len_nodes : ∀ (a : List Tree), a.length ≤ nodesL a
  | [] => by simp [nodesL]
  | ⟨r, t, ks⟩ :: a => by have := len_nodes a; simp only [List.length_cons, nodesL, nodesT]; omega
mutual
theorem yield_nodes : ∀ (t : Tree), (yieldT t).length ≤ nodesT t
  | ⟨r, t, ks⟩ => by
    unfold yieldT nodesT
    split
    · simp
    · have := yields_nodes ks; omega
theorem yields_nodes : ∀ (ks : List Tree), (yields ks).length ≤ nodesL ks
  | [] => by simp [yields]
  | k :: ks => by
    have := yield_nodes k
    have := yields_nodes ks
    simp only [yields, List.length_append, nodesL]; omega
end
end Go.Proofs.Ytlbhaegdcpacpaa
