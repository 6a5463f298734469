/- What a valid grammar is, off the value that gram.Check returns. -/
import Derived.Test.YtnlpeiffbnlncaaDoorQCheck
namespace Go.Proofs.YtnlpeiffbnlncaaDoor
open Go.RowKit
set_option linter.unusedVariables false

/-- A valid grammar. -/
structure ValidG (g : Gram) : Prop where
  t1 : 1 ≤ g.terms
  t8 : g.terms ≤ 8
  n1 : 1 ≤ g.nons
  n10 : g.nons ≤ 10
  s0 : 0 ≤ g.start
  s1 : g.start < g.nons
  len : g.rules.length ≤ 32
  rules : ∀ q ∈ g.rules, 0 ≤ q.left ∧ q.left < g.nons ∧ q.right.length ≤ 4 ∧ ∀ x ∈ q.right, 0 ≤ x.n ∧ if x.term then x.n < g.terms else x.n < g.nons

theorem symIn_true {t n : Int} {s : Sym} (h : symIn t n s = true) : 0 ≤ s.n ∧ if s.term then s.n < t else s.n < n := by
  obtain ⟨b, k⟩ := s
  cases b <;> simp_all [symIn]
theorem chkFrom_zero {t n : Int} : ∀ (pre rs : List Rule), chkFrom t n pre rs = 0 → ∀ q ∈ rs, 0 ≤ q.left ∧ q.left < n ∧ q.right.length ≤ 4 ∧ ∀ x ∈ q.right, 0 ≤ x.n ∧ if x.term then x.n < t else x.n < n
  | _, [], _, q, hq => by simp at hq
  | pre, r :: rs, h, q, hq => by
    unfold chkFrom at h
    split at h
    · cases h
    split at h
    · cases h
    split at h
    · cases h
    split at h
    · cases h
    rename_i h1 h2 h3 h4
    rcases List.mem_cons.1 hq with rfl | hq
    · refine ⟨by omega, by omega, by omega, fun x hx => symIn_true ?_⟩
      simp only [List.any_eq_true, not_exists, not_and] at h3
      have := h3 x hx
      simpa using this
    · exact chkFrom_zero _ rs h q hq
theorem validG_of {g : Gram} (h : checkI g = 0) : ValidG g := by
  unfold checkI at h
  split at h
  · cases h
  split at h
  · cases h
  rename_i h1 h2
  unfold gramBad at h1
  exact ⟨by omega, by omega, by omega, by omega, by omega, by omega, by omega, chkFrom_zero _ _ h⟩
theorem ValidG.i64 {g : Gram} (h : ValidG g) : I64 g.terms ∧ I64 g.nons ∧ I64 g.start := by
  have := h.t1; have := h.t8; have := h.n1; have := h.n10; have := h.s0; have := h.s1
  unfold I64; omega
end Go.Proofs.YtnlpeiffbnlncaaDoor
