/- Plain: what a count of trees says; the words of trees. No program is named here. -/
import Derived.Test.YtnlpeiffbnlncaaDoorQp1
import Derived.Test.YtnlpeiffbnlncaaDoorQValid
import Derived.Test.YtnlpeiffbnlncaaDoorQw1
namespace Go.Proofs.YtnlpeiffbnlncaaDoor
set_option linter.unusedVariables false

theorem cnt_pos {P : Tree → Prop} {k : Int} (h : CntIs P k) {t : Tree} (ht : P t) : k ≠ 0 := by
  rcases h with ⟨rfl, _⟩ | ⟨L, _, hL, rfl⟩
  · omega
  · have := List.length_pos_of_mem ((hL t).2 ht)
    omega
theorem cnt_zero {P : Tree → Prop} {k : Int} (h : CntIs P k) (hn : ∀ t, ¬ P t) : k = 0 := by
  rcases h with ⟨rfl, h⟩ | ⟨L, _, hL, rfl⟩
  · obtain ⟨t, ht, _⟩ := h 0
    exact absurd ht (hn t)
  · cases L with
    | nil => rfl
    | cons x L => exact absurd ((hL x).1 (by simp)) (hn x)
theorem cnt_one {P : Tree → Prop} {k : Int} (h : CntIs P k) (hu : ∀ t u, P t → P u → t = u) : k = 0 ∨ k = 1 := by
  rcases h with ⟨rfl, h⟩ | ⟨L, hn, hL, rfl⟩
  · obtain ⟨t, ht, _⟩ := h 0
    obtain ⟨u, hu1, hu2⟩ := h (nodesT t + 1)
    have := hu t u ht hu1
    subst this
    omega
  · have h1 : L.length ≤ 1 := by
      match L, hn, hL with
      | [], _, _ => simp
      | [x], _, _ => simp
      | x :: y :: L, hn, hL =>
        have e := hu x y ((hL x).1 (by simp)) ((hL y).1 (by simp))
        subst e
        simp at hn
    omega
/-- Finitely many trees: the count is their number. -/
theorem cnt_fin {P : Tree → Prop} {k : Int} (h : CntIs P k) {L : List Tree} (hL : ∀ t, P t → t ∈ L) : k ≠ -1 := by
  rcases h with ⟨rfl, h⟩ | ⟨M, _, _, rfl⟩
  · exfalso
    obtain ⟨N, hN⟩ := nodes_bound L
    obtain ⟨t, h1, h2⟩ := h N
    have := hN t (hL t h1)
    omega
  · omega

mutual
theorem yield_rg {g : Gram} (hs : ∀ q ∈ g.rules, ∀ s ∈ q.right, s.term = true → 0 ≤ s.n ∧ s.n < g.terms) : ∀ (t : Tree) (s : Sym), vt g t s → (s.term = true → 0 ≤ s.n ∧ s.n < g.terms) → ∀ x ∈ yieldT t, 0 ≤ x ∧ x < g.terms
  | ⟨r, tt, ks⟩, s, h, h0, x, hx => by
    unfold vt at h
    split at h
    · rename_i ht
      obtain ⟨rfl, rfl, rfl⟩ := h
      unfold yieldT at hx
      rw [if_pos (by omega)] at hx
      simp at hx
      subst hx
      exact h0 ht
    · obtain ⟨_, hr, q, hq, _, hks⟩ := h
      unfold yieldT at hx
      rw [if_neg (by omega)] at hx
      exact yields_rg hs ks q.right hks (fun s hsm => hs q (List.mem_of_getElem? hq) s hsm) x hx
theorem yields_rg {g : Gram} (hs : ∀ q ∈ g.rules, ∀ s ∈ q.right, s.term = true → 0 ≤ s.n ∧ s.n < g.terms) : ∀ (ks : List Tree) (ss : List Sym), vts g ks ss → (∀ s ∈ ss, s.term = true → 0 ≤ s.n ∧ s.n < g.terms) → ∀ x ∈ yields ks, 0 ≤ x ∧ x < g.terms
  | [], _, _, _, x, hx => by simp [yields] at hx
  | k :: ks, [], h, _, x, hx => by unfold vts at h; exact h.elim
  | k :: ks, s :: ss, h, h0, x, hx => by
    unfold vts at h
    unfold yields at hx
    rcases List.mem_append.1 hx with hx | hx
    · exact yield_rg hs k s h.1 (h0 s (by simp)) x hx
    · exact yields_rg hs ks ss h.2 (fun s hsm => h0 s (by simp [hsm])) x hx
end
theorem terms_of {g : Gram} (hv : ValidG g) : ∀ q ∈ g.rules, ∀ s ∈ q.right, s.term = true → 0 ≤ s.n ∧ s.n < g.terms := fun q hq s hs ht => by
  have h := (hv.rules q hq).2.2.2 s hs
  rw [if_pos ht] at h
  exact h
theorem word_rg {g : Gram} (hv : ValidG g) {t : Tree} {n : Int} (h : vt g t ⟨false, n⟩) {most : Int} (hl : ((yieldT t).length : Int) ≤ most) : wordE g.terms (yieldT t) most = 0 := by
  have hr := yield_rg (terms_of hv) t ⟨false, n⟩ h (fun e => by simp at e)
  unfold wordE
  rw [if_neg (by omega), if_neg]
  intro ha
  obtain ⟨x, hx, he⟩ := List.any_eq_true.1 ha
  have := hr x hx
  simp [wordBad] at he
  omega
theorem word_rg2 {tm : Int} {ws : List Int} {most : Int} (hl : (ws.length : Int) ≤ most) (hw : ∀ x ∈ ws, 0 ≤ x ∧ x < tm) : wordE tm ws most = 0 := by
  unfold wordE
  rw [if_neg (by omega), if_neg]
  intro ha
  obtain ⟨x, hx, he⟩ := List.any_eq_true.1 ha
  have := hw x hx
  simp [wordBad] at he
  omega
end Go.Proofs.YtnlpeiffbnlncaaDoor
