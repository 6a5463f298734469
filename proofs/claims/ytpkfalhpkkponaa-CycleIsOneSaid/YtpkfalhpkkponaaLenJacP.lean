/- The reference's rounds of lengths, each from the round before, end in the same table. No program is named here. -/
import Derived.Test.YtpkfalhpkkponaaLenRankP
import Derived.Test.YtpkfalhpkkponaaTrimP
namespace Go.Proofs.Ytpkfalhpkkponaa
open Go.RowKit
set_option linter.unusedVariables false

theorem RankI.pass {rs : List Rule} {n : Nat} : ∀ (ps : List Rule) (l : List Int) (T : Nat → Nat) (top : Nat), RankI rs l T top → l.length = n → (∀ q ∈ ps, q ∈ rs ∧ q.left.toNat < n) → ∃ T' top', RankI rs (lenPass ps l) T' top' ∧ (lenPass ps l).length = n
  | [], l, T, top, h, hl, _ => ⟨T, top, h, hl⟩
  | q :: ps, l, T, top, h, hl, hp => by
    obtain ⟨T1, top1, h1⟩ := h.step q (hp q (by simp)).1 (by rw [hl]; exact (hp q (by simp)).2)
    exact RankI.pass ps (lenStep l q) T1 top1 h1 (by rw [lenStep_len, hl]) (fun x hx => hp x (by simp [hx]))
theorem RankI.iter {rs : List Rule} {n : Nat} (hp : ∀ q ∈ rs, q.left.toNat < n) : ∀ k : Nat, ∃ T top, RankI rs (lenIter rs k (lenInit n)) T top ∧ (lenIter rs k (lenInit n)).length = n
  | 0 => ⟨_, _, RankI.init rs n, by simp [lenIter, lenInit]⟩
  | k + 1 => by
    obtain ⟨T, top, h, hl⟩ := RankI.iter hp k
    exact RankI.pass rs _ T top h hl (fun q hq => ⟨hq, hp q hq⟩)

theorem LFix.low {g : Gram} {n : Nat} {l : List Int} (h : LFix g n l) {q : Rule} (hq : q ∈ g.rules) (hl : q.left.toNat < n) (h0 : 0 ≤ sumR l 0 q.right) : 0 ≤ l.getD q.left.toNat 0 ∧ l.getD q.left.toNat 0 ≤ sumR l 0 q.right := by
  have hf := h.fix q hq
  have hlt : q.left.toNat < l.length := by rw [h.shape.len]; exact hl
  unfold lenStep at hf
  split at hf
  · rename_i hc
    have h2 := congrArg (fun z : List Int => z.getD q.left.toNat 0) hf
    rw [getD_set hlt, if_pos rfl] at h2
    omega
  · omega
theorem LFix.rank {g : Gram} {n : Nat} {l : List Int} (h : LFix g n l) (hr : ∀ q ∈ g.rules, q.left.toNat < n) :
    ∃ T : Nat → Nat, ∀ x, x < n → 0 ≤ l.getD x 0 → ∃ q ∈ g.rules, q.left.toNat = x ∧ sumR l 0 q.right = l.getD x 0 ∧ ∀ s ∈ q.right, s.term = false → T s.n.toNat < T x := by
  obtain ⟨k, hk⟩ := h.iter
  obtain ⟨T, top, hT, hl⟩ := RankI.iter hr k
  rw [← hk] at hT hl
  refine ⟨T, fun x hx hx0 => ?_⟩
  obtain ⟨q, hq, hql, h0, h1, h2⟩ := hT.how x (by omega) hx0
  have h3 := h.low hq (hr q hq) h0
  rw [hql] at h3
  have he : sumR l 0 q.right = l.getD x 0 := by omega
  exact ⟨q, hq, hql, he, h2 he⟩

/-! The reference's rounds. -/
def jacStep (out next : List Int) (q : Rule) : List Int :=
  if 0 ≤ sumR out 0 q.right ∧ (next.getD q.left.toNat 0 < 0 ∨ sumR out 0 q.right < next.getD q.left.toNat 0) then next.set q.left.toNat (sumR out 0 q.right) else next
def jacRound (rs : List Rule) (out : List Int) : List Int := rs.foldl (jacStep out) out
def jacIter (rs : List Rule) : Nat → List Int → List Int
  | 0, l => l
  | k + 1, l => jacRound rs (jacIter rs k l)

/-- A table on the way: no length is too small. -/
structure JacI (n : Nat) (L out : List Int) : Prop where
  len : out.length = n
  low : ∀ x, x < n → -1 ≤ out.getD x 0
  ge : ∀ x, x < n → 0 ≤ out.getD x 0 → 0 ≤ L.getD x 0 ∧ L.getD x 0 ≤ out.getD x 0
/-- next is at most out, where out has a length. -/
def LeJ (n : Nat) (next out : List Int) : Prop := ∀ x, x < n → 0 ≤ out.getD x 0 → 0 ≤ next.getD x 0 ∧ next.getD x 0 ≤ out.getD x 0
theorem LeJ.refl (n : Nat) (l : List Int) : LeJ n l l := fun x _ h => ⟨h, Int.le_refl _⟩
theorem LeJ.trans {n : Nat} {a b c : List Int} (h : LeJ n a b) (k : LeJ n b c) : LeJ n a c := fun x hx hc => by
  obtain ⟨k1, k2⟩ := k x hx hc
  obtain ⟨h1, h2⟩ := h x hx k1
  exact ⟨h1, by omega⟩
theorem jacStep_le {n : Nat} {out next : List Int} (q : Rule) (hn : next.length = n) (hq : q.left.toNat < n) : LeJ n (jacStep out next q) next ∧ (0 ≤ sumR out 0 q.right → 0 ≤ (jacStep out next q).getD q.left.toNat 0 ∧ (jacStep out next q).getD q.left.toNat 0 ≤ sumR out 0 q.right) := by
  unfold jacStep
  split
  · rename_i hc
    refine ⟨fun x hx h0 => ?_, fun h0 => ?_⟩
    · rw [getD_set (by omega)]
      split
      · rename_i e
        subst e
        omega
      · exact ⟨h0, Int.le_refl _⟩
    · rw [getD_set (by omega), if_pos rfl]
      exact ⟨h0, Int.le_refl _⟩
  · exact ⟨LeJ.refl _ _, fun h0 => by omega⟩
theorem jacStep_inv {g : Gram} {n : Nat} {L out next : List Int} (h : LFix g n L) (hr : ∀ q ∈ g.rules, q.left.toNat < n ∧ ∀ s ∈ q.right, s.term = false → s.n.toNat < n) (q : Rule) (hq : q ∈ g.rules) (ho : JacI n L out) (hn : JacI n L next) : JacI n L (jacStep out next q) := by
  unfold jacStep
  split
  · rename_i hc
    have hql := (hr q hq).1
    have hlen : q.left.toNat < next.length := by rw [hn.len]; exact hql
    have hp := (sumR_nonneg out q.right 0 (Int.le_refl 0)).1 hc.1
    obtain ⟨i1, i2, _⟩ := sumR_less (l := out) (l' := L) q.right 0 0 (Int.le_refl 0) (Int.le_refl 0) (fun s hs ht => ho.ge _ ((hr q hq).2 s hs ht) (hp s hs ht))
    have h3 := h.low hq hql i1
    refine ⟨by rw [List.length_set, hn.len], fun x hx => ?_, fun x hx h0 => ?_⟩
    · rw [getD_set hlen]
      split
      · omega
      · exact hn.low x hx
    · rw [getD_set hlen] at h0 ⊢
      split
      · rename_i e
        subst e
        omega
      · rename_i e
        rw [if_neg e] at h0
        exact hn.ge x hx h0
  · exact hn
theorem jac_fold {g : Gram} {n : Nat} {L out : List Int} (h : LFix g n L) (hr : ∀ q ∈ g.rules, q.left.toNat < n ∧ ∀ s ∈ q.right, s.term = false → s.n.toNat < n) (ho : JacI n L out) : ∀ (ps : List Rule) (next : List Int), (∀ q ∈ ps, q ∈ g.rules) → JacI n L next →
    JacI n L (ps.foldl (jacStep out) next) ∧ LeJ n (ps.foldl (jacStep out) next) next ∧ ∀ q ∈ ps, 0 ≤ sumR out 0 q.right → 0 ≤ (ps.foldl (jacStep out) next).getD q.left.toNat 0 ∧ (ps.foldl (jacStep out) next).getD q.left.toNat 0 ≤ sumR out 0 q.right
  | [], next, _, hn => ⟨hn, LeJ.refl _ _, by simp⟩
  | q :: ps, next, hp, hn => by
    have hq := hp q (by simp)
    obtain ⟨s1, s2⟩ := jacStep_le (out := out) q hn.len (hr q hq).1
    obtain ⟨i1, i2, i3⟩ := jac_fold h hr ho ps (jacStep out next q) (fun x hx => hp x (by simp [hx])) (jacStep_inv h hr q hq ho hn)
    refine ⟨i1, i2.trans s1, fun x hx h0 => ?_⟩
    rcases List.mem_cons.1 hx with rfl | hx
    · obtain ⟨j1, j2⟩ := s2 h0
      obtain ⟨k1, k2⟩ := i2 _ (hr _ hq).1 j1
      exact ⟨k1, Int.le_trans k2 j2⟩
    · exact i3 x hx h0

theorem countP_less {p p' : Nat → Bool} : ∀ (l : List Nat), (∀ x ∈ l, p' x = true → p x = true) → (∃ x ∈ l, p x = true ∧ p' x = false) → l.countP p' < l.countP p
  | [], _, h => by obtain ⟨x, hx, _⟩ := h; simp at hx
  | a :: l, hm, h => by
    have hle : l.countP p' ≤ l.countP p := List.countP_mono_left (fun x hx => hm x (by simp [hx]))
    obtain ⟨x, hx, h1, h2⟩ := h
    rw [List.countP_cons, List.countP_cons]
    rcases List.mem_cons.1 hx with rfl | hx
    · rw [h1, h2]; simp; omega
    · have ih := countP_less l (fun y hy => hm y (by simp [hy])) ⟨x, hx, h1, h2⟩
      have ha := hm a (by simp)
      cases hp' : p' a
      · simp; omega
      · rw [ha hp']; simp; omega
def wrongJ (n : Nat) (L out : List Int) : Nat := (List.range n).countP fun x => decide (out.getD x 0 ≠ L.getD x 0)
theorem JacI.none {g : Gram} {n : Nat} {L out : List Int} (h : LFix g n L) (ho : JacI n L out) {x : Nat} (hx : x < n) (hL : ¬ 0 ≤ L.getD x 0) : out.getD x 0 = L.getD x 0 := by
  have h1 := ho.low x hx
  have h2 := (h.shape.get x).1
  have h3 : ¬ 0 ≤ out.getD x 0 := fun h4 => hL (ho.ge x hx h4).1
  omega
theorem jac_less {g : Gram} {n : Nat} {L out : List Int} (h : LFix g n L) (hr : ∀ q ∈ g.rules, q.left.toNat < n ∧ ∀ s ∈ q.right, s.term = false → s.n.toNat < n) (ho : JacI n L out) :
    JacI n L (jacRound g.rules out) ∧ (wrongJ n L out = 0 ∨ wrongJ n L (jacRound g.rules out) < wrongJ n L out) ∧ wrongJ n L (jacRound g.rules out) ≤ wrongJ n L out := by
  obtain ⟨i1, i2, i3⟩ := jac_fold h hr ho g.rules out (fun q hq => hq) ho
  have hkeep : ∀ x, x < n → out.getD x 0 = L.getD x 0 → (jacRound g.rules out).getD x 0 = L.getD x 0 := fun x hx he => by
    by_cases hL : 0 ≤ L.getD x 0
    · obtain ⟨j1, j2⟩ := i2 x hx (by omega)
      have := (i1.ge x hx j1).2
      show (List.foldl (jacStep out) out g.rules).getD x 0 = _
      omega
    · exact i1.none h hx hL
  have hmono : ∀ x ∈ List.range n, decide ((jacRound g.rules out).getD x 0 ≠ L.getD x 0) = true → decide (out.getD x 0 ≠ L.getD x 0) = true := fun x hx hp => by
    have hx := List.mem_range.1 hx
    simp only [decide_eq_true_eq] at hp ⊢
    exact fun e => hp (hkeep x hx e)
  refine ⟨i1, ?_, List.countP_mono_left hmono⟩
  obtain ⟨T, hT⟩ := h.rank (fun q hq => (hr q hq).1)
  by_cases hw : ∃ x, x < n ∧ out.getD x 0 ≠ L.getD x 0
  · refine .inr (countP_less _ hmono ?_)
    obtain ⟨x, hx, hne⟩ := hw
    have key : ∀ (t x : Nat), T x = t → x < n → out.getD x 0 ≠ L.getD x 0 → ∃ y, y < n ∧ out.getD y 0 ≠ L.getD y 0 ∧ (jacRound g.rules out).getD y 0 = L.getD y 0 := by
      intro t
      induction t using Nat.strongRecOn with
      | _ t ih =>
        intro x ht hx hne
        have hL : 0 ≤ L.getD x 0 := by
          false_or_by_contra
          rename_i hn
          exact hne (ho.none h hx hn)
        obtain ⟨q, hq, hql, hs, hp⟩ := hT x hx hL
        by_cases hall : ∃ s ∈ q.right, s.term = false ∧ out.getD s.n.toNat 0 ≠ L.getD s.n.toNat 0
        · obtain ⟨s, hs1, hs2, hs3⟩ := hall
          exact ih (T s.n.toNat) (by rw [← ht]; exact hp s hs1 hs2) s.n.toNat rfl ((hr q hq).2 s hs1 hs2) hs3
        · have he : sumR out 0 q.right = sumR L 0 q.right := sumR_same q.right 0 (fun s h1 h2 => by
            false_or_by_contra
            rename_i hn
            exact hall ⟨s, h1, h2, hn⟩)
          obtain ⟨j1, j2⟩ := i3 q hq (by omega)
          rw [hql] at j1 j2
          have := (i1.ge x hx j1).2
          refine ⟨x, hx, hne, ?_⟩
          show (List.foldl (jacStep out) out g.rules).getD x 0 = _
          omega
    obtain ⟨y, hy, h1, h2⟩ := key _ x rfl hx hne
    exact ⟨y, List.mem_range.2 hy, by simpa using h1, by simpa using h2⟩
  · refine .inl ?_
    unfold wrongJ
    rw [List.countP_eq_zero]
    intro x hx
    have hx := List.mem_range.1 hx
    simp only [decide_eq_true_eq]
    exact fun hne => hw ⟨x, hx, hne⟩
theorem JacI.init {g : Gram} {n : Nat} {L : List Int} (h : LFix g n L) : JacI n L (lenInit n) :=
  ⟨by simp [lenInit], fun x hx => by simp [lenInit, List.getD_eq_getElem?_getD, hx], fun x hx h0 => by simp [lenInit, List.getD_eq_getElem?_getD, hx] at h0⟩
theorem jac_iter {g : Gram} {n : Nat} {L : List Int} (h : LFix g n L) (hr : ∀ q ∈ g.rules, q.left.toNat < n ∧ ∀ s ∈ q.right, s.term = false → s.n.toNat < n) : ∀ k, JacI n L (jacIter g.rules k (lenInit n)) ∧ wrongJ n L (jacIter g.rules k (lenInit n)) ≤ n - k
  | 0 => ⟨JacI.init h, by
      unfold wrongJ
      have := List.countP_le_length (p := fun x => decide ((jacIter g.rules 0 (lenInit n)).getD x 0 ≠ L.getD x 0)) (l := List.range n)
      rw [List.length_range] at this
      omega⟩
  | k + 1 => by
    obtain ⟨h1, h2⟩ := jac_iter h hr k
    obtain ⟨j1, j2, j3⟩ := jac_less h hr h1
    refine ⟨j1, ?_⟩
    show wrongJ n L (jacRound g.rules (jacIter g.rules k (lenInit n))) ≤ _
    omega
/-- n rounds of the reference end in the program's table. -/
theorem jac_end {g : Gram} {n : Nat} {L : List Int} (h : LFix g n L) (hr : ∀ q ∈ g.rules, q.left.toNat < n ∧ ∀ s ∈ q.right, s.term = false → s.n.toNat < n) : jacIter g.rules n (lenInit n) = L := by
  obtain ⟨h1, h2⟩ := jac_iter h hr n
  have h3 : wrongJ n L (jacIter g.rules n (lenInit n)) = 0 := by omega
  unfold wrongJ at h3
  rw [List.countP_eq_zero] at h3
  apply List.ext_getElem?
  intro i
  rcases Nat.lt_or_ge i n with hi | hi
  · have h4 := h3 i (List.mem_range.2 hi)
    simp only [decide_eq_true_eq, ne_eq, Classical.not_not] at h4
    have e1 := h1.len
    have e2 := h.shape.len
    rw [List.getD_eq_getElem?_getD, List.getD_eq_getElem?_getD, List.getElem?_eq_getElem (by omega), List.getElem?_eq_getElem (by omega)] at h4
    rw [List.getElem?_eq_getElem (by omega), List.getElem?_eq_getElem (by omega)]
    simpa using h4
  · rw [List.getElem?_eq_none (by rw [h1.len]; exact hi), List.getElem?_eq_none (by rw [h.shape.len]; exact hi)]
end Go.Proofs.Ytpkfalhpkkponaa
