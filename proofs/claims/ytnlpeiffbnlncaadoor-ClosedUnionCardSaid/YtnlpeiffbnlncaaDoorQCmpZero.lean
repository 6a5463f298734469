/- The comparisons answer zero just at equal things. No program is named here. -/
import Derived.Test.YtnlpeiffbnlncaaDoorQOrd
namespace Go.Proofs.YtnlpeiffbnlncaaDoor

theorem cmpI_zero {a b : Int} : cmpI a b = 0 ↔ a = b := by unfold cmpI; split <;> (try split) <;> omega
theorem symCmp_zero {a b : Sym} : symCmp a b = 0 ↔ a = b := by
  obtain ⟨t, n⟩ := a
  obtain ⟨t', n'⟩ := b
  unfold symCmp
  by_cases h : t = t'
  · subst h; simp [cmpI_zero]
  · simp only [if_neg h]
    constructor
    · intro e; split at e <;> cases e
    · intro e; injection e with e1 _; exact absurd e1 h
theorem symsCmp_zero : ∀ {a b : List Sym}, symsCmp a b = 0 ↔ a = b
  | [], [] => by simp [symsCmp]
  | [], _ :: _ => by simp [symsCmp]
  | _ :: _, [] => by simp [symsCmp]
  | x :: xs, y :: ys => by
    unfold symsCmp
    by_cases h : symCmp x y = 0
    · rw [if_pos h, symsCmp_zero]
      have := symCmp_zero.1 h
      subst this; simp
    · rw [if_neg h]
      constructor
      · intro e; exact absurd e h
      · intro e; injection e with e1 _; exact absurd (symCmp_zero.2 e1) h
theorem ruleCmp_zero {a b : Rule} : ruleCmp a b = 0 ↔ a = b := by
  obtain ⟨l, r⟩ := a
  obtain ⟨l', r'⟩ := b
  unfold ruleCmp orI orI orI
  by_cases h : cmpI l l' = 0
  · simp only [h, if_true]
    have := cmpI_zero.1 h
    subst this
    by_cases h2 : symsCmp r r' = 0
    · have e := symsCmp_zero.1 h2
      subst e
      simp [h2]
    · simp only [if_neg h2]
      constructor
      · intro e; exact absurd e h2
      · intro e; injection e with _ e2; exact absurd (symsCmp_zero.2 e2) h2
  · simp only [if_neg h]
    constructor
    · intro e; exact absurd e h
    · intro e; injection e with e1 _; exact absurd (cmpI_zero.2 e1) h
end Go.Proofs.YtnlpeiffbnlncaaDoor
