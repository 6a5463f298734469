/- Plain law: a tree of the flat grammar is not great beside its word, and its word is within the terminals. No program is named here. -/
import Derived.Test.YtnphbbhnfkjlcaaQClimbAllowP
import Derived.Test.YtnphbbhnfkjlcaaQPrecBackP
namespace Go.Proofs.Ytnphbbhnfkjlcaa
open Go.RowKit
set_option linter.unusedVariables false

theorem flat_small {t : Table} (hv : Valid t) {f : Gram} (hf : f.rules = flatRules t) : ∀ (x : Tree), vt f x ⟨false, 0⟩ → nodesT x ≤ 2 * (yieldT x).length := by
  refine Tree.ind ?_
  intro r z ks ih h
  obtain ⟨rfl, hr, v, _, _, hk⟩ := flat_nodeC hv hf h
  have hy : yieldT ⟨r, 0, ks⟩ = yields ks := by rw [yieldT, if_neg (by omega)]
  rw [hy]
  cases hk with
  | atom _ _ e => subst e; simp [nodesT, nodesL, yields, yieldT, leafT]
  | brk _ _ _ y hyv e =>
    subst e
    have := ih y (by simp) hyv
    simp only [nodesT, nodesL, yields, yieldT, leafT, List.length_append]
    simp
    omega
  | pre l op _ _ _ _ y hyv e =>
    subst e
    have := ih y (by simp) hyv
    simp only [nodesT, nodesL, yields, yieldT, leafT, List.length_append]
    simp
    omega
  | inf l op _ _ _ _ a y hav hyv e =>
    subst e
    have := ih y (by simp) hyv
    have := ih a (by simp) hav
    simp only [nodesT, nodesL, yields, yieldT, leafT, List.length_append]
    simp
    omega
mutual
theorem yield_range {g : Gram} (hs : ∀ q ∈ g.rules, ∀ s ∈ q.right, s.term = true → 0 ≤ s.n ∧ s.n < g.terms) : ∀ (t : Tree) (s : Sym), vt g t s → (s.term = true → 0 ≤ s.n ∧ s.n < g.terms) → ∀ a ∈ yieldT t, 0 ≤ a ∧ a < g.terms
  | ⟨r, t, ks⟩, ⟨st, sn⟩, h, h1, a, ha => by
    unfold vt at h
    cases st
    · simp only [Bool.false_eq_true, if_false] at h
      obtain ⟨rfl, hr, q, hq, hl, hk⟩ := h
      rw [yieldT, if_neg (by omega)] at ha
      exact yields_range hs ks q.right hk (hs q (List.mem_of_getElem? hq)) a ha
    · simp only [if_true] at h
      obtain ⟨rfl, rfl, rfl⟩ := h
      rw [yieldT, if_pos (by omega)] at ha
      simp at ha
      subst ha
      exact h1 rfl
theorem yields_range {g : Gram} (hs : ∀ q ∈ g.rules, ∀ s ∈ q.right, s.term = true → 0 ≤ s.n ∧ s.n < g.terms) : ∀ (ks : List Tree) (ss : List Sym), vts g ks ss → (∀ s ∈ ss, s.term = true → 0 ≤ s.n ∧ s.n < g.terms) → ∀ a ∈ yields ks, 0 ≤ a ∧ a < g.terms
  | [], ss, _, _, a, ha => by simp [yields] at ha
  | k :: ks, s :: ss, h, h1, a, ha => by
    unfold vts at h
    unfold yields at ha
    rcases List.mem_append.1 ha with ha | ha
    · exact yield_range hs k s h.1 (h1 s (by simp)) a ha
    · exact yields_range hs ks ss h.2 (fun x hx => h1 x (by simp [hx])) a ha
  | _ :: _, [], h, _, _, _ => by simp [vts] at h
end
end Go.Proofs.Ytnphbbhnfkjlcaa
