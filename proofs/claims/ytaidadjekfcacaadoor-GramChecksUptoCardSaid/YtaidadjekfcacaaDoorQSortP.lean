/- Plain law: sorting by insertion, the round on the way; two sorted lists of the same elements are one. No program is named here. -/
import Derived.Test.YtaidadjekfcacaaDoorQCmpZero
namespace Go.Proofs.YtaidadjekfcacaaDoor
set_option linter.unusedVariables false

/-- Up to the place i the list is sorted. -/
def SortedTo (lt : Int → Int → Bool) (ys : List Int) (i : Nat) : Prop := ∀ (p q : Nat) (a b : Int), p < q → q ≤ i → ys[p]? = some a → ys[q]? = some b → lt a b = true
/-- .. but for the element at j, which is less than all behind it. -/
def InsTo (lt : Int → Int → Bool) (ys : List Int) (i j : Nat) : Prop :=
  (∀ (p q : Nat) (a b : Int), p < q → q ≤ i → p ≠ j → q ≠ j → ys[p]? = some a → ys[q]? = some b → lt a b = true) ∧ (∀ (q : Nat) (a b : Int), j < q → q ≤ i → ys[j]? = some a → ys[q]? = some b → lt a b = true)
theorem SortedTo.ins {lt : Int → Int → Bool} {ys : List Int} {i : Nat} (h : SortedTo lt ys i) : InsTo lt ys (i + 1) (i + 1) :=
  ⟨fun p q a b hpq hq hp hqj ha hb => h p q a b hpq (by omega) ha hb, fun q a b hq hq2 => by omega⟩
theorem InsTo.stop {lt : Int → Int → Bool} {ys : List Int} {i j : Nat} (hT : ∀ a ∈ ys, ∀ b ∈ ys, ∀ c ∈ ys, lt a b = true → lt b c = true → lt a c = true) (hj : j ≤ i) (h : InsTo lt ys i j) (hs : ∀ a b, 0 < j → ys[j]? = some a → ys[j - 1]? = some b → lt b a = true) : SortedTo lt ys i := by
  intro p q a b hpq hq ha hb
  by_cases hpj : p = j
  · subst hpj; exact h.2 q a b hpq hq ha hb
  · by_cases hqj : q = j
    · subst hqj
      by_cases hp1 : p = q - 1
      · subst hp1; exact hs b a (by omega) hb ha
      · have hq1 : q - 1 < ys.length := by have := (List.getElem?_eq_some_iff.1 hb).1; omega
        have hc : ys[q - 1]? = some ys[q - 1] := List.getElem?_eq_getElem hq1
        exact hT a (List.mem_of_getElem? ha) _ (List.mem_of_getElem? hc) b (List.mem_of_getElem? hb) (h.1 p (q - 1) a _ (by omega) (by omega) hpj (by omega) ha hc) (hs b _ (by omega) hb hc)
    · exact h.1 p q a b hpq hq hpj hqj ha hb
theorem swap_get {ys : List Int} {j : Nat} {a b : Int} (h0 : 0 < j) (ha : ys[j]? = some a) (hb : ys[j - 1]? = some b) (m : Nat) : ((ys.set j b).set (j - 1) a)[m]? = if m = j then some b else if m = j - 1 then some a else ys[m]? := by
  have h1 := (List.getElem?_eq_some_iff.1 ha).1
  by_cases hm : m = j - 1
  · subst hm
    rw [if_neg (by omega), if_pos rfl, List.getElem?_set_self (by simp; omega)]
  · rw [List.getElem?_set_ne (by omega)]
    by_cases hm2 : m = j
    · subst hm2
      rw [if_pos rfl, List.getElem?_set_self h1]
    · rw [List.getElem?_set_ne (by omega), if_neg hm2, if_neg hm]
theorem InsTo.swap {lt : Int → Int → Bool} {ys : List Int} {i j : Nat} {a b : Int} (h : InsTo lt ys i j) (h0 : 0 < j) (hj : j ≤ i) (ha : ys[j]? = some a) (hb : ys[j - 1]? = some b) (hl : lt a b = true) : InsTo lt ((ys.set j b).set (j - 1) a) i (j - 1) := by
  refine ⟨fun p q x y hpq hq hp hqj hx hy => ?_, fun q x y hq hqi hx hy => ?_⟩
  · rw [swap_get h0 ha hb] at hx hy
    by_cases hp1 : p = j
    · subst hp1
      rw [if_pos rfl] at hx
      injection hx with hx
      subst hx
      rw [if_neg (by omega), if_neg (by omega)] at hy
      exact h.1 (p - 1) q b y (by omega) hq (by omega) (by omega) hb hy
    · rw [if_neg hp1, if_neg hp] at hx
      by_cases hq1 : q = j
      · subst hq1
        rw [if_pos rfl] at hy
        injection hy with hy
        subst hy
        exact h.1 p (q - 1) x b (by omega) (by omega) hp1 (by omega) hx hb
      · rw [if_neg hq1, if_neg hqj] at hy
        exact h.1 p q x y hpq hq hp1 hq1 hx hy
  · rw [swap_get h0 ha hb] at hx hy
    rw [if_neg (by omega), if_pos rfl] at hx
    injection hx with hx
    subst hx
    by_cases hq1 : q = j
    · subst hq1
      rw [if_pos rfl] at hy
      injection hy with hy
      subst hy
      exact hl
    · rw [if_neg hq1, if_neg (by omega)] at hy
      exact h.2 q a y (by omega) hqi ha hy
theorem swap_perm {ys : List Int} {j : Nat} {a b : Int} (h0 : 0 < j) (ha : ys[j]? = some a) (hb : ys[j - 1]? = some b) : ((ys.set j b).set (j - 1) a).Perm ys := by
  obtain ⟨h1, rfl⟩ := List.getElem?_eq_some_iff.1 ha
  obtain ⟨h2, rfl⟩ := List.getElem?_eq_some_iff.1 hb
  exact List.set_set_perm h1 h2

/-! ### The order of the rules -/
theorem symCmp_trans {a b c : Sym} (h1 : symCmp a b < 0) (h2 : symCmp b c < 0) : symCmp a c < 0 := by
  obtain ⟨ta, na⟩ := a; obtain ⟨tb, nb⟩ := b; obtain ⟨tc, nc⟩ := c
  unfold symCmp cmpI at *
  cases ta <;> cases tb <;> cases tc <;> simp at * <;> omega
theorem symCmp_total {a b : Sym} : symCmp a b = 0 ∨ symCmp a b < 0 ∨ symCmp b a < 0 := by
  obtain ⟨ta, na⟩ := a; obtain ⟨tb, nb⟩ := b
  unfold symCmp cmpI
  cases ta <;> cases tb <;> simp <;> omega
theorem symsCmp_cons {x y : Sym} {xs ys : List Sym} : symsCmp (x :: xs) (y :: ys) < 0 ↔ symCmp x y < 0 ∨ (x = y ∧ symsCmp xs ys < 0) := by
  rw [symsCmp]
  by_cases h : symCmp x y = 0
  · rw [if_pos h]
    constructor
    · exact fun h1 => .inr ⟨symCmp_zero.1 h, h1⟩
    · rintro (h1 | h1)
      · omega
      · exact h1.2
  · rw [if_neg h]
    constructor
    · exact .inl
    · rintro (h1 | ⟨h1, _⟩)
      · exact h1
      · exact absurd (symCmp_zero.2 h1) h
theorem symsCmp_trans : ∀ (xs ys zs : List Sym), symsCmp xs ys < 0 → symsCmp ys zs < 0 → symsCmp xs zs < 0
  | [], [], _, h1, _ => by simp [symsCmp] at h1
  | [], _ :: _, [], _, h2 => by simp [symsCmp] at h2
  | [], _ :: _, _ :: _, _, _ => by simp [symsCmp]
  | _ :: _, [], _, h1, _ => by simp [symsCmp] at h1
  | _ :: _, _ :: _, [], _, h2 => by simp [symsCmp] at h2
  | x :: xs, y :: ys, z :: zs, h1, h2 => by
    rw [symsCmp_cons] at h1 h2 ⊢
    rcases h1 with h1 | ⟨rfl, h1⟩
    · rcases h2 with h2 | ⟨rfl, h2⟩
      · exact .inl (symCmp_trans h1 h2)
      · exact .inl h1
    · rcases h2 with h2 | ⟨rfl, h2⟩
      · exact .inl h2
      · exact .inr ⟨rfl, symsCmp_trans xs ys zs h1 h2⟩
theorem symsCmp_total : ∀ (xs ys : List Sym), xs = ys ∨ symsCmp xs ys < 0 ∨ symsCmp ys xs < 0
  | [], [] => .inl rfl
  | [], _ :: _ => .inr (.inl (by simp [symsCmp]))
  | _ :: _, [] => .inr (.inr (by simp [symsCmp]))
  | x :: xs, y :: ys => by
    rw [symsCmp_cons, symsCmp_cons]
    rcases symCmp_total (a := x) (b := y) with h | h | h
    · have e := symCmp_zero.1 h
      subst e
      rcases symsCmp_total xs ys with h1 | h1 | h1
      · exact .inl (by rw [h1])
      · exact .inr (.inl (.inr ⟨rfl, h1⟩))
      · exact .inr (.inr (.inr ⟨rfl, h1⟩))
    · exact .inr (.inl (.inl h))
    · exact .inr (.inr (.inl h))
theorem ruleCmp_lt {a b : Rule} : ruleCmp a b < 0 ↔ a.left < b.left ∨ (a.left = b.left ∧ symsCmp a.right b.right < 0) := by
  unfold ruleCmp
  simp only [orI]
  unfold cmpI
  by_cases h1 : a.left < b.left
  · simp [h1]
  · by_cases h2 : b.left < a.left
    · simp [h1, h2]; omega
    · have e : a.left = b.left := by omega
      simp [h1, h2, e]
      split <;> omega
def ltRule (a b : Rule) : Bool := decide (ruleCmp a b < 0)
theorem ltRule_trans {a b c : Rule} (h1 : ltRule a b = true) (h2 : ltRule b c = true) : ltRule a c = true := by
  unfold ltRule at *
  simp only [decide_eq_true_eq, ruleCmp_lt] at *
  rcases h1 with h1 | ⟨e1, h1⟩ <;> rcases h2 with h2 | ⟨e2, h2⟩
  · exact .inl (by omega)
  · exact .inl (by omega)
  · exact .inl (by omega)
  · exact .inr ⟨by omega, symsCmp_trans _ _ _ h1 h2⟩
theorem ltRule_irr (a : Rule) : ltRule a a = false := by
  unfold ltRule
  rw [ruleCmp_zero.2 rfl]; rfl
theorem ltRule_total {a b : Rule} (h : a ≠ b) : ltRule a b = true ∨ ltRule b a = true := by
  unfold ltRule
  simp only [decide_eq_true_eq, ruleCmp_lt]
  rcases symsCmp_total a.right b.right with h1 | h1 | h1
  · have hl : a.left ≠ b.left := fun e => h (by obtain ⟨_, _⟩ := a; obtain ⟨_, _⟩ := b; simp at *; exact ⟨e, h1⟩)
    rcases Int.lt_or_gt_of_ne hl with h2 | h2
    · exact .inl (.inl h2)
    · exact .inr (.inl h2)
  · rcases Int.lt_trichotomy a.left b.left with h2 | h2 | h2
    · exact .inl (.inl h2)
    · exact .inl (.inr ⟨h2, h1⟩)
    · exact .inr (.inl h2)
  · rcases Int.lt_trichotomy a.left b.left with h2 | h2 | h2
    · exact .inl (.inl h2)
    · exact .inr (.inr ⟨h2.symm, h1⟩)
    · exact .inr (.inl h2)
/-- Two sorted lists of the same rules are one. -/
theorem sorted_one : ∀ (xs ys : List Rule), xs.Pairwise (fun a b => ltRule a b = true) → ys.Pairwise (fun a b => ltRule a b = true) → xs.Perm ys → xs = ys
  | [], ys, _, _, h => h.nil_eq
  | x :: xs, [], _, _, h => by have := h.length_eq; simp at this
  | x :: xs, y :: ys, h1, h2, h => by
    have e : x = y := by
      have hx : x ∈ y :: ys := h.subset (by simp)
      have hy : y ∈ x :: xs := h.symm.subset (by simp)
      rcases List.mem_cons.1 hx with e | hx
      · exact e
      · rcases List.mem_cons.1 hy with e | hy
        · exact e.symm
        · have a1 := (List.pairwise_cons.1 h1).1 y hy
          have a2 := (List.pairwise_cons.1 h2).1 x hx
          have := ltRule_trans a1 a2
          rw [ltRule_irr] at this
          simp at this
    subst e
    rw [sorted_one xs ys (List.pairwise_cons.1 h1).2 (List.pairwise_cons.1 h2).2 h.cons_inv]
end Go.Proofs.YtaidadjekfcacaaDoor
