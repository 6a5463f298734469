/- The reference's loops over pairs of symbols of a rule: what stands in the table on the way. No program is named here. -/
import Derived.Test.YtbboceklkjfimaaDoorQFolP
namespace Go.Proofs.YtbboceklkjfimaaDoor
open Go.RowKit
set_option linter.unusedVariables false

/-- The pairs that C names are done. -/
def FolC (g : Gram) (m : Nat) (C : Nat → Nat → Nat → Prop) (a t : Nat) : Prop :=
  (t = m ∧ WkB g m true (m + g.start.toNat) (m + a)) ∨
  (t < m ∧ ∃ (jj : Nat) (q : Rule) (i k : Nat) (x y : Sym), g.rules[jj]? = some q ∧ Rea g (fun _ => true) q.left.toNat ∧ i < k ∧ q.right[i]? = some x ∧ q.right[k]? = some y ∧ C jj i k ∧ Nuls g ((q.right.take k).drop (i + 1)) ∧ WkB g m true (nodeS m x) (m + a) ∧ WkF g m (nodeS m y) t)
theorem FolC.imp {g : Gram} {m : Nat} {C C' : Nat → Nat → Nat → Prop} {a t : Nat} (h : ∀ (jj : Nat) (q : Rule) (i k : Nat), g.rules[jj]? = some q → i < k → k < q.right.length → Rea g (fun _ => true) q.left.toNat → Nuls g ((q.right.take k).drop (i + 1)) → C jj i k → C' jj i k) (hc : FolC g m C a t) : FolC g m C' a t := by
  rcases hc with h1 | ⟨h1, jj, q, i, k, x, y, a1, a2, a3, a4, a5, a6, a7, a8, a9⟩
  · exact .inl h1
  · exact .inr ⟨h1, jj, q, i, k, x, y, a1, a2, a3, a4, a5, h jj q i k a1 a3 (List.getElem?_eq_some_iff.1 a5).1 a2 a7 a6, a7, a8, a9⟩
def Cm (j i k : Nat) (jj i' k' : Nat) : Prop := jj < j ∨ (jj = j ∧ (i' < i ∨ (i' = i ∧ k' < k)))
theorem FolC.none {g : Gram} {m : Nat} {a t : Nat} : FolC g m (Cm 0 0 0) a t ↔ (t = m ∧ WkB g m true (m + g.start.toNat) (m + a)) := by
  constructor
  · rintro (h1 | ⟨h1, jj, q, i, k, x, y, a1, a2, a3, a4, a5, a6, a7, a8, a9⟩)
    · exact h1
    · unfold Cm at a6; omega
  · exact .inl
theorem FolC.hit {g : Gram} {m : Nat} {j i k a t : Nat} {q : Rule} {x y : Sym} (hq : g.rules[j]? = some q) (hr : Rea g (fun _ => true) q.left.toNat) (hik : i < k) (hx : q.right[i]? = some x) (hy : q.right[k]? = some y) (hn : Nuls g ((q.right.take k).drop (i + 1))) :
    FolC g m (Cm j i (k + 1)) a t ↔ FolC g m (Cm j i k) a t ∨ (t < m ∧ WkB g m true (nodeS m x) (m + a) ∧ WkF g m (nodeS m y) t) := by
  constructor
  · rintro (h1 | ⟨h1, jj, q', i', k', x', y', a1, a2, a3, a4, a5, a6, a7, a8, a9⟩)
    · exact .inl (.inl h1)
    · by_cases e : jj = j ∧ i' = i ∧ k' = k
      · obtain ⟨rfl, rfl, rfl⟩ := e
        rw [hq] at a1
        injection a1 with a1
        subst a1
        rw [hx] at a4
        injection a4 with a4
        subst a4
        rw [hy] at a5
        injection a5 with a5
        subst a5
        exact .inr ⟨h1, a8, a9⟩
      · exact .inl (.inr ⟨h1, jj, q', i', k', x', y', a1, a2, a3, a4, a5, by unfold Cm at a6 ⊢; omega, a7, a8, a9⟩)
  · rintro (h1 | ⟨h1, h2, h3⟩)
    · exact h1.imp (fun jj q i k _ _ _ _ _ hc => by unfold Cm at hc ⊢; omega)
    · exact .inr ⟨h1, j, q, i, k, x, y, hq, hr, hik, hx, hy, by unfold Cm; omega, hn, h2, h3⟩
theorem FolC.skip {g : Gram} {m : Nat} {j i k a t : Nat} {q : Rule} (hq : g.rules[j]? = some q) (hn : ¬ (Rea g (fun _ => true) q.left.toNat ∧ Nuls g ((q.right.take k).drop (i + 1)))) : FolC g m (Cm j i (k + 1)) a t ↔ FolC g m (Cm j i k) a t := by
  refine ⟨fun h => h.imp (fun jj q' i' k' h1 h2 h3 h4 h5 hc => ?_), fun h => h.imp (fun jj q i k _ _ _ _ _ hc => by unfold Cm at hc ⊢; omega)⟩
  by_cases e : jj = j ∧ i' = i ∧ k' = k
  · obtain ⟨rfl, rfl, rfl⟩ := e
    rw [hq] at h1
    injection h1 with h1
    subst h1
    exact absurd ⟨h4, h5⟩ hn
  · unfold Cm at hc ⊢; omega
theorem FolC.nextk {g : Gram} {m : Nat} {j i a t : Nat} : FolC g m (Cm j i (i + 1)) a t ↔ FolC g m (Cm j i 0) a t :=
  ⟨fun h => h.imp (fun jj q' i' k' h1 h2 h3 h4 h5 hc => by unfold Cm at hc ⊢; omega), fun h => h.imp (fun jj q' i' k' h1 h2 h3 h4 h5 hc => by unfold Cm at hc ⊢; omega)⟩
theorem FolC.nexti {g : Gram} {m : Nat} {j i k a t : Nat} {q : Rule} (hq : g.rules[j]? = some q) (hk : q.right.length ≤ k) : FolC g m (Cm j (i + 1) 0) a t ↔ FolC g m (Cm j i k) a t := by
  refine ⟨fun h => h.imp (fun jj q' i' k' h1 h2 h3 h4 h5 hc => ?_), fun h => h.imp (fun jj q' i' k' h1 h2 h3 h4 h5 hc => by unfold Cm at hc ⊢; omega)⟩
  by_cases e : jj = j
  · subst e
    rw [hq] at h1
    injection h1 with h1
    subst h1
    unfold Cm at hc ⊢
    omega
  · unfold Cm at hc ⊢; omega
theorem FolC.nextj {g : Gram} {m : Nat} {j i a t : Nat} {q : Rule} (hq : g.rules[j]? = some q) (hi : q.right.length ≤ i) : FolC g m (Cm (j + 1) 0 0) a t ↔ FolC g m (Cm j i 0) a t := by
  refine ⟨fun h => h.imp (fun jj q' i' k' h1 h2 h3 h4 h5 hc => ?_), fun h => h.imp (fun jj q' i' k' h1 h2 h3 h4 h5 hc => by unfold Cm at hc ⊢; omega)⟩
  by_cases e : jj = j
  · subst e
    rw [hq] at h1
    injection h1 with h1
    subst h1
    unfold Cm at hc ⊢
    omega
  · unfold Cm at hc ⊢; omega
theorem FolC.all {g : Gram} {m : Nat} {j a t : Nat} (hj : g.rules.length ≤ j) : FolC g m (Cm j 0 0) a t ↔ FolR g m a t := by
  constructor
  · rintro (h1 | ⟨h1, jj, q, i, k, x, y, a1, a2, a3, a4, a5, a6, a7, a8, a9⟩)
    · exact .inl h1
    · exact .inr ⟨h1, q, i, k, x, y, List.mem_of_getElem? a1, a2, a3, a4, a5, a7, a8, a9⟩
  · rintro (h1 | ⟨h1, q, i, k, x, y, a1, a2, a3, a4, a5, a7, a8, a9⟩)
    · exact .inl h1
    · obtain ⟨jj, hjj⟩ := List.mem_iff_getElem?.1 a1
      exact .inr ⟨h1, jj, q, i, k, x, y, hjj, a2, a3, a4, a5, .inl (by have := (List.getElem?_eq_some_iff.1 hjj).1; omega), a7, a8, a9⟩
theorem RowIs.setAt {M : Nat} {P P' : Nat → Prop} {row : List Bool} {t0 : Nat} {v : Bool} (h : RowIs M P row) (ht : t0 < M) (hk : ∀ t, t < M → t ≠ t0 → (P t ↔ P' t)) (hv : v = true ↔ P' t0) : RowIs M P' (row.set t0 v) := by
  refine ⟨by rw [List.length_set, h.1], fun t htm => ?_⟩
  rw [List.getElem?_set]
  by_cases e : t0 = t
  · subst e
    rw [if_pos rfl, if_pos (by rw [h.1]; exact ht)]
    rw [← hv]
    simp
  · rw [if_neg e, h.2 t htm]
    exact hk t htm (fun h => e h.symm)
theorem RowIs.congr {M : Nat} {P P' : Nat → Prop} {row : List Bool} (h : RowIs M P row) (hp : ∀ t, t < M → (P t ↔ P' t)) : RowIs M P' row := ⟨h.1, fun t ht => (h.2 t ht).trans (hp t ht)⟩
theorem RowIs.zero (M : Nat) : RowIs M (fun _ => False) (List.replicate M false) := ⟨by simp, fun t ht => by rw [List.getElem?_replicate, if_pos ht]; simp⟩
/-- All rows of a table say what P says. -/
def TabIs (M : Nat) (P : Nat → Nat → Prop) (f : List (List Bool)) : Prop := ∀ (a : Nat) (row : List Bool), f[a]? = some row → RowIs M (P a) row
theorem TabIs.congr {M : Nat} {P P' : Nat → Nat → Prop} {f : List (List Bool)} (h : TabIs M P f) (hp : ∀ a t, a < f.length → t < M → (P a t ↔ P' a t)) : TabIs M P' f := fun a row hr => (h a row hr).congr (hp a · (List.getElem?_eq_some_iff.1 hr).1)
theorem TabIs.setAt {M : Nat} {P P' : Nat → Nat → Prop} {f : List (List Bool)} {a0 t0 : Nat} {v : Bool} {row : List Bool} (h : TabIs M P f) (hr : f[a0]? = some row) (ht : t0 < M) (hk : ∀ a t, t < M → ¬ (a = a0 ∧ t = t0) → (P a t ↔ P' a t)) (hv : v = true ↔ P' a0 t0) : TabIs M P' (f.set a0 (row.set t0 v)) := by
  intro a r har
  rw [List.getElem?_set] at har
  split at har
  · rename_i e
    subst e
    split at har
    · injection har with har
      subst har
      exact (h a0 row hr).setAt ht (fun t ht2 hne => hk a0 t ht2 (fun h => hne h.2)) hv
    · cases har
  · rename_i e
    exact (h a r har).congr (fun t ht2 => hk a t ht2 (fun h => e h.1.symm))
end Go.Proofs.YtbboceklkjfimaaDoor
