/- Plain law: the sign of the reference's Before is what Order and Compare return. -/
import Derived.Test.YtaidadjekfcacaaDoorQBefore
import Derived.Test.YtaidadjekfcacaaDoorQSortP
namespace Go.Proofs.YtaidadjekfcacaaDoor

def signRQ (p q : Rule) : Int := if ruleLt p q then -1 else if ruleLt q p then 1 else 0
def SmallQ (l : List Sym) : Prop := ∀ s ∈ l, 0 ≤ s.n ∧ s.n ≤ 1000000

theorem symCmp_weightQ (a b : Sym) (ha : 0 ≤ a.n ∧ a.n ≤ 1000000) (hb : 0 ≤ b.n ∧ b.n ≤ 1000000) :
    symCmp a b = if a = b then 0 else if weightI a < weightI b then -1 else 1 := by
  obtain ⟨t, n⟩ := a
  obtain ⟨t', n'⟩ := b
  cases t <;> cases t' <;> simp [symCmp, cmpI, weightI] at * <;> (repeat' split) <;> omega
theorem symsLt_asymmQ : ∀ (xs ys : List Sym), symsLt xs ys = true → symsLt ys xs = false
  | [], [], _ => by simp [symsLt]
  | [], _ :: _, _ => by simp [symsLt]
  | _ :: _, [], h => by simp [symsLt] at h
  | x :: xs, y :: ys, h => by
    by_cases e : x = y
    · subst e
      simp [symsLt] at h ⊢
      exact symsLt_asymmQ xs ys h
    · have e' : ¬ y = x := fun h => e h.symm
      simp [symsLt, e, e'] at h ⊢
      omega
theorem symsCmp_signQ : ∀ (xs ys : List Sym), SmallQ xs → SmallQ ys → symsCmp xs ys = if symsLt xs ys then -1 else if symsLt ys xs then 1 else 0
  | [], [], _, _ => by simp [symsCmp, symsLt]
  | [], _ :: _, _, _ => by simp [symsCmp, symsLt]
  | _ :: _, [], _, _ => by simp [symsCmp, symsLt]
  | x :: xs, y :: ys, hx, hy => by
    have h1 := symCmp_weightQ x y (hx x (by simp)) (hy y (by simp))
    have ih := symsCmp_signQ xs ys (fun s hs => hx s (by simp [hs])) (fun s hs => hy s (by simp [hs]))
    by_cases e : x = y
    · subst e
      simp [symsCmp, symsLt, h1, ih]
    · have e' : ¬ y = x := fun h => e h.symm
      have hw : weightI x ≠ weightI y := by
        intro hw
        apply e
        obtain ⟨t, n⟩ := x
        obtain ⟨t', n'⟩ := y
        have h2 := hx ⟨t, n⟩ (by simp)
        have h3 := hy ⟨t', n'⟩ (by simp)
        cases t <;> cases t' <;> simp [weightI] at * <;> omega
      simp only [symsCmp, symsLt, h1, if_neg e, if_neg e', decide_eq_true_eq]
      repeat' split
      all_goals omega
theorem ruleCmp_signQ (p q : Rule) (hp : SmallQ p.right) (hq : SmallQ q.right) : ruleCmp p q = signRQ p q := by
  have h := symsCmp_signQ p.right q.right hp hq
  unfold ruleCmp signRQ ruleLt orI orI orI cmpI
  by_cases e : p.left = q.left
  · simp only [e, Int.lt_irrefl, if_true, if_false, h]
    repeat' split
    all_goals first | rfl | omega
  · have e' : ¬ q.left = p.left := fun h => e h.symm
    simp only [if_neg e, if_neg e', decide_eq_true_eq]
    repeat' split
    all_goals first | rfl | omega
theorem symCmp_signQ (a b : Sym) (ha : 0 ≤ a.n ∧ a.n ≤ 1000000) (hb : 0 ≤ b.n ∧ b.n ≤ 1000000) : symCmp a b = signRQ ⟨0, [a]⟩ ⟨0, [b]⟩ := by
  rw [← ruleCmp_signQ ⟨0, [a]⟩ ⟨0, [b]⟩ (by intro s hs; simp at hs; subst hs; exact ha) (by intro s hs; simp at hs; subst hs; exact hb)]
  unfold ruleCmp orI orI orI symsCmp symsCmp cmpI
  by_cases h : symCmp a b = 0 <;> simp [h]
theorem ruleLt_lt {p q : Rule} (hp : SmallQ p.right) (hq : SmallQ q.right) : ruleLt p q = ltRule p q := by
  have h := ruleCmp_signQ p q hp hq
  unfold ltRule
  rw [h]
  unfold signRQ
  cases hlt : ruleLt p q with
  | true => simp
  | false => cases hgt : ruleLt q p <;> simp
end Go.Proofs.YtaidadjekfcacaaDoor
