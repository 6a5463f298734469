/- CycleSays: the plain law: a way back to the same place is at most as long as there are nonterminals; the first shortest cycle is one. -/
import Derived.Test.YtabehgggahnopaaDoorQRLoops
import Derived.Test.YtabehgggahnopaaDoorQRCycle
import Derived.Test.YtabehgggahnopaaDoorQCycLoops
namespace Go.Proofs.YtabehgggahnopaaDoor
open Go.RowKit
set_option linter.unusedVariables false

theorem stp_same {E : Nat → Nat → Prop} {n : Nat} (hE : ∀ a b, E a b → a < n ∧ b < n) : ∀ (k a : Nat), Stp E (k + 1) a a → ∃ j, j < n ∧ Stp E (j + 1) a a := by
  intro k
  induction k using Nat.strongRecOn with
  | _ k ih =>
    intro a h
    by_cases hk : k < n
    · exact ⟨k, hk, h⟩
    · obtain ⟨l, hl, hx⟩ := Stp.nodes (k + 1) a a h
      have hlt : ∀ x ∈ l, x < n := fun x hm => by
        obtain ⟨i, hi⟩ := List.mem_iff_getElem?.1 hm
        have h1 := (hx i x hi).2
        have h2 := (List.getElem?_eq_some_iff.1 hi).1
        obtain ⟨d, hd⟩ : ∃ d, k + 1 - i = d + 1 := ⟨k - i, by omega⟩
        rw [hd] at h1
        obtain ⟨c, hc, _⟩ := h1
        exact (hE x c hc).1
      have hnd : ¬ l.Nodup := fun hd => by
        have := nodup_le n l hd hlt
        omega
      obtain ⟨i, j, x, h1, h2, h3⟩ := not_nodup l hnd
      have hj := (List.getElem?_eq_some_iff.1 h3).1
      have h4 := Stp.app i (k + 1 - j) a x a (hx i x h2).1 (hx j x h3).2
      have e : i + (k + 1 - j) = (i + (k - j)) + 1 := by omega
      rw [e] at h4
      exact ih (i + (k - j)) (by omega) a h4
theorem loopK_iff {g : Gram} {n : Nat} (hp : PassIn g n) (t : Nat) : LoopK g (n + 1) t ↔ Plus (PassE g) t t := by
  constructor
  · rintro ⟨k, h1, h2, h3⟩
    obtain ⟨j, rfl⟩ : ∃ j, k = j + 1 := ⟨k - 1, by omega⟩
    exact Stp.plus j t t h3
  · intro h
    obtain ⟨k, hk⟩ := h.stp
    obtain ⟨j, hj, hs⟩ := stp_same hp.e k t hk
    exact ⟨j + 1, by omega, by omega, hs⟩
theorem loops_eq {g : Gram} {n : Nat} (hp : PassIn g n) {l row : List Bool} (h : LoopL g n l) (hl : row.length = n) (hr : ∀ t, t < n → (row[t]? = some true ↔ LoopK g (n + 1) t)) : l = row := by
  apply List.ext_getElem?
  intro t
  by_cases ht : t < n
  · obtain ⟨x, hx⟩ := get_some (show t < l.length by rw [h.1]; exact ht)
    obtain ⟨y, hy⟩ := get_some (show t < row.length by rw [hl]; exact ht)
    have h1 := h.2 t ht
    have h2 := hr t ht
    rw [loopK_iff hp, ← h1, hx, hy] at h2
    rw [hx, hy]
    cases x <;> cases y <;> simp at h2 ⊢
  · rw [List.getElem?_eq_none (by rw [h.1]; omega), List.getElem?_eq_none (by omega)]
theorem CycTo.uniq {g : Gram} {k i t p : Nat} {l l' : List Int} (h : CycTo g k i t p l) (h' : CycTo g k i t p l') : l = l' := by
  have key : ∀ r : Nat, r < p + 1 → l[r]? = l'[r]? := by
    intro r
    induction r with
    | zero => intro _; rw [h.head, h'.head]
    | succ r ih =>
      intro hr
      have e := ih (by omega)
      obtain ⟨x, hx⟩ := get_some (show r < l.length by rw [h.len]; omega)
      obtain ⟨y, hy⟩ := get_some (show r + 1 < l.length by rw [h.len]; omega)
      obtain ⟨z, hz⟩ := get_some (show r + 1 < l'.length by rw [h'.len]; omega)
      have hx' : l'[r]? = some x := by rw [← e]; exact hx
      obtain ⟨a1, a2⟩ := h.next r x y hx hy
      obtain ⟨b1, b2⟩ := h'.next r x z hx' hz
      have hy0 : 0 ≤ y := by obtain ⟨_, _, _, q, _⟩ := a1; exact q.1
      have hz0 : 0 ≤ z := by obtain ⟨_, _, _, q, _⟩ := b1; exact q.1
      rw [hy, hz]
      congr 1
      rcases Int.lt_trichotomy y z with hlt | rfl | hlt
      · exact absurd a1 (b2 y hy0 hlt)
      · rfl
      · exact absurd b1 (a2 z hz0 hlt)
  apply List.ext_getElem?
  intro r
  by_cases hr : r < p + 1
  · exact key r hr
  · rw [List.getElem?_eq_none (by rw [h.len]; omega), List.getElem?_eq_none (by rw [h'.len]; omega)]
theorem CycF.uniq {g : Gram} {n k k' i i' : Nat} {q q' : Rule} {l l' : List Int} (h : CycF g n k i q l) (h' : CycF g n k' i' q' l') : l = l' := by
  have hk : k = k' := by
    rcases Nat.lt_trichotomy k k' with hlt | rfl | hlt
    · exact absurd h.tab (h'.short k h.k1.1 hlt q (List.mem_of_getElem? h.rule))
    · rfl
    · exact absurd h'.tab (h.short k' h'.k1.1 hlt q' (List.mem_of_getElem? h'.rule))
  subst hk
  have hi : i = i' := by
    rcases Nat.lt_trichotomy i i' with hlt | rfl | hlt
    · exact absurd h.tab (h'.first i hlt q h.rule)
    · rfl
    · exact absurd h'.tab (h.first i' hlt q' h'.rule)
  subst hi
  have hq : q = q' := by have h1 := h.rule; rw [h'.rule] at h1; injection h1 with h1; exact h1.symm
  subst hq
  exact h.way.uniq h'.way
theorem CycF.no {g : Gram} {n k i : Nat} {q : Rule} {l : List Int} (h : CycF g n k i q l) : ¬ NoCyc g n := fun hn => hn k h.k1.1 h.k1.2 q (List.mem_of_getElem? h.rule) h.tab
end Go.Proofs.YtabehgggahnopaaDoor
