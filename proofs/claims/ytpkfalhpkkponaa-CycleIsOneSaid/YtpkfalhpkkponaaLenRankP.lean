/- The table of lengths that rounds in place end in has a rank: each length is the sum of lengths of smaller rank. No program is named here. -/
import Derived.Test.YtpkfalhpkkponaaUsefulP
namespace Go.Proofs.Ytpkfalhpkkponaa
open Go.RowKit
set_option linter.unusedVariables false

/-- Parts that are not longer give a sum that is not greater; one that is shorter, a smaller one. -/
theorem sumR_less {l l' : List Int} : ∀ (ss : List Sym) (a a' : Int), 0 ≤ a' → a' ≤ a → (∀ s ∈ ss, s.term = false → 0 ≤ l'.getD s.n.toNat 0 ∧ l'.getD s.n.toNat 0 ≤ l.getD s.n.toNat 0) →
    0 ≤ sumR l' a' ss ∧ sumR l' a' ss + (a - a') ≤ sumR l a ss ∧ ((∃ s ∈ ss, s.term = false ∧ l'.getD s.n.toNat 0 < l.getD s.n.toNat 0) → sumR l' a' ss + (a - a') < sumR l a ss)
  | [], a, a', h0, h1, _ => by simp [sumR]; omega
  | s :: ss, a, a', h0, h1, h => by
    have hp : 0 ≤ partR l' s ∧ partR l' s ≤ partR l s := by
      unfold partR
      cases hs : s.term
      · simpa [hs] using h s (by simp) hs
      · simp
    obtain ⟨i1, i2, i3⟩ := sumR_less ss (a + partR l s) (a' + partR l' s) (by omega) (by omega) (fun x hx => h x (by simp [hx]))
    rw [sumR_cons l s ss a (by omega), sumR_cons l' s ss a' h0, if_pos hp.1, if_pos (show 0 ≤ partR l s by omega)]
    refine ⟨i1, by omega, ?_⟩
    rintro ⟨x, hx, ht, hlt⟩
    rcases List.mem_cons.1 hx with rfl | hx
    · have : partR l' x < partR l x := by unfold partR; rw [ht]; simpa using hlt
      omega
    · have := i3 ⟨x, hx, ht, hlt⟩
      omega

theorem sumR_same {l l' : List Int} : ∀ (ss : List Sym) (a : Int), (∀ s ∈ ss, s.term = false → l'.getD s.n.toNat 0 = l.getD s.n.toNat 0) → sumR l' a ss = sumR l a ss
  | [], a, _ => rfl
  | s :: ss, a, h => by
    unfold sumR
    rw [sumR_same ss _ (fun x hx => h x (by simp [hx]))]
    cases hs : s.term
    · rw [h s (by simp) hs]
    · simp
theorem sumR_from (l : List Int) : ∀ (ss : List Sym) (a : Int), 0 ≤ a → 0 ≤ sumR l a ss → a ≤ sumR l a ss
  | [], a, _, _ => Int.le_refl _
  | s :: ss, a, ha, h => by
    rw [sumR_cons l s ss a ha] at h ⊢
    split
    · rename_i hp
      rw [if_pos hp] at h
      have := sumR_from l ss (a + partR l s) (by omega) h
      omega
    · rename_i hp
      rw [if_neg hp] at h
      omega
theorem sumR_ge (l : List Int) : ∀ (ss : List Sym) (a : Int), 0 ≤ a → 0 ≤ sumR l a ss → ∀ s ∈ ss, s.term = false → l.getD s.n.toNat 0 ≤ sumR l a ss
  | s :: ss, a, ha, h, x, hx, ht => by
    rw [sumR_cons l s ss a ha] at h ⊢
    split
    · rename_i hp
      rw [if_pos hp] at h
      rcases List.mem_cons.1 hx with rfl | hx
      · have := sumR_from l ss (a + partR l x) (by omega) h
        have e : partR l x = l.getD x.n.toNat 0 := by unfold partR; rw [ht]; rfl
        omega
      · exact sumR_ge l ss (a + partR l s) (by omega) h x hx ht
    · rename_i hp
      rw [if_neg hp] at h
      omega

structure RankI (rs : List Rule) (l : List Int) (T : Nat → Nat) (top : Nat) : Prop where
  top : ∀ k, T k ≤ top
  how : ∀ x, x < l.length → 0 ≤ l.getD x 0 → ∃ q ∈ rs, q.left.toNat = x ∧ 0 ≤ sumR l 0 q.right ∧ sumR l 0 q.right ≤ l.getD x 0 ∧ (sumR l 0 q.right = l.getD x 0 → ∀ s ∈ q.right, s.term = false → T s.n.toNat < T x)

theorem RankI.init (rs : List Rule) (n : Nat) : RankI rs (lenInit n) (fun _ => 0) 0 :=
  ⟨fun _ => Nat.le_refl _, fun x hx h => by
    simp [lenInit] at hx
    simp [lenInit, List.getD_eq_getElem?_getD, hx] at h⟩
theorem getD_set {l : List Int} {i k : Nat} {v : Int} (hi : i < l.length) : (l.set i v).getD k 0 = if k = i then v else l.getD k 0 := by
  rw [List.getD_eq_getElem?_getD, List.getD_eq_getElem?_getD, List.getElem?_set]
  by_cases e : i = k
  · subst e; simp [hi]
  · rw [if_neg e, if_neg (fun h => e h.symm)]
theorem RankI.step {rs : List Rule} {l : List Int} {T : Nat → Nat} {top : Nat} (h : RankI rs l T top) (q : Rule) (hq : q ∈ rs) (hl : q.left.toNat < l.length) :
    ∃ T' top', RankI rs (lenStep l q) T' top' := by
  unfold lenStep
  split
  · rename_i hc
    obtain ⟨h0, hlt⟩ := hc
    have hparts := (sumR_nonneg l q.right 0 (Int.le_refl 0)).1 h0
    refine ⟨fun k => if k = q.left.toNat then top + 1 else T k, top + 1, fun k => ?_, fun x hx hx0 => ?_⟩
    · split
      · exact Nat.le_refl _
      · have := h.top k; omega
    · rw [List.length_set] at hx
      rw [getD_set hl] at hx0 ⊢
      by_cases e : x = q.left.toNat
      · subst e
        rw [if_pos rfl] at hx0 ⊢
        -- the rule itself: its left is not among its parts
        have hnot : ∀ s ∈ q.right, s.term = false → s.n.toNat ≠ q.left.toNat := by
          intro s hs ht es
          have h1 := hparts s hs ht
          rw [es] at h1
          have h2 := sumR_ge l q.right 0 (Int.le_refl 0) h0 s hs ht
          rw [es] at h2
          rcases hlt with h3 | h3 <;> omega
        have heq : sumR (l.set q.left.toNat (sumR l 0 q.right)) 0 q.right = sumR l 0 q.right := sumR_same q.right 0 (fun s hs ht => by rw [getD_set hl, if_neg (hnot s hs ht)])
        refine ⟨q, hq, rfl, by rw [heq]; exact h0, by rw [heq]; exact Int.le_refl _, fun _ s hs ht => ?_⟩
        rw [if_pos rfl, if_neg (hnot s hs ht)]
        have := h.top s.n.toNat
        omega
      · rw [if_neg e] at hx0 ⊢
        obtain ⟨p, hp, hpl, p0, p1, p2⟩ := h.how x hx hx0
        have hpp := (sumR_nonneg l p.right 0 (Int.le_refl 0)).1 p0
        obtain ⟨i1, i2, i3⟩ := sumR_less (l := l) (l' := l.set q.left.toNat (sumR l 0 q.right)) p.right 0 0 (Int.le_refl 0) (Int.le_refl 0) (fun s hs ht => by
          rw [getD_set hl]
          have h1 := hpp s hs ht
          split
          · rename_i es
            rw [es] at h1 ⊢
            rcases hlt with h3 | h3 <;> omega
          · omega)
        refine ⟨p, hp, hpl, i1, by omega, fun he s hs ht => ?_⟩
        rw [if_neg e]
        by_cases es : s.n.toNat = q.left.toNat
        · exfalso
          have h1 := hpp s hs ht
          have := i3 ⟨s, hs, ht, by rw [getD_set hl, if_pos es]; rw [es] at h1 ⊢; rcases hlt with h3 | h3 <;> omega⟩
          omega
        · rw [if_neg es]
          exact p2 (by omega) s hs ht
  · exact ⟨T, top, h⟩
end Go.Proofs.Ytpkfalhpkkponaa
