/- What first.Make computes: rounds over the rules until nothing turns; each turn lowers the number of false places. No program is named here. -/
import Derived.Test.YtpkfalhpkkponaaFirstP
namespace Go.Proofs.Ytpkfalhpkkponaa
open Go.RowKit
set_option linter.unusedVariables false

/-- One rule's step. -/
def stepR (m : Nat) (q : Rule) (s : List Bool × List (List Bool)) : List Bool × List (List Bool) :=
  (if (ofFrom s.1 s.2 (List.replicate m false) q.right).2 then s.1.set q.left.toNat true else s.1,
   s.2.set q.left.toNat (orRow (s.2.getD q.left.toNat []) (ofFrom s.1 s.2 (List.replicate m false) q.right).1))
/-- The code's step: first the row, then Empty out of what was computed before. -/
def passR (m : Nat) (rs : List Rule) (s : List Bool × List (List Bool)) : List Bool × List (List Bool) := rs.foldl (fun s q => stepR m q s) s
def iterR (m : Nat) (rs : List Rule) : Nat → List Bool × List (List Bool) → List Bool × List (List Bool)
  | 0, s => s
  | k + 1, s => passR m rs (iterR m rs k s)
def initS (m n : Nat) : List Bool × List (List Bool) := (List.replicate n false, List.replicate n (List.replicate m false))
/-- How many places are false. -/
def falses (s : List Bool × List (List Bool)) : Nat := s.1.count false + (s.2.map fun r => r.count false).sum

theorem orRow_cnt : ∀ (a b : List Bool), (orRow a b).count false ≤ a.count false ∧ (orRow a b ≠ a → (orRow a b).count false < a.count false)
  | [], _ => by simp [orRow]
  | t :: ts, [] => by simp [orRow]
  | t :: ts, f :: fs => by
    have ih := orRow_cnt ts fs
    cases t
    · cases f
      · have e : orRow (false :: ts) (false :: fs) = false :: orRow ts fs := rfl
        rw [e]
        simp only [List.count_cons_self]
        exact ⟨by omega, fun h => by have := ih.2 (fun h' => h (by rw [h'])); omega⟩
      · have e : orRow (false :: ts) (true :: fs) = true :: orRow ts fs := rfl
        have e2 : (true :: orRow ts fs).count false = (orRow ts fs).count false := by simp
        rw [e, List.count_cons_self, e2]
        exact ⟨by omega, fun _ => by omega⟩
    · have e : orRow (true :: ts) (f :: fs) = true :: orRow ts fs := by simp [orRow]
      have e2 : (true :: orRow ts fs).count false = (orRow ts fs).count false := by simp
      have e3 : (true :: ts).count false = ts.count false := by simp
      rw [e, e2, e3]
      exact ⟨ih.1, fun h => ih.2 (fun h' => h (by rw [h']))⟩
theorem sum_set : ∀ (l : List Nat) (i x y : Nat), l[i]? = some x → (l.set i y).sum + x = l.sum + y
  | [], _, _, _, h => by simp at h
  | a :: l, 0, x, y, h => by simp at h; subst h; simp; omega
  | a :: l, i + 1, x, y, h => by
    have := sum_set l i x y (by simpa using h)
    simp only [List.set_cons_succ, List.sum_cons]
    omega
theorem count_set : ∀ (l : List Bool) (i : Nat), l[i]? = some false → (l.set i true).count false + 1 = l.count false
  | [], _, h => by simp at h
  | a :: l, 0, h => by simp at h; subst h; simp
  | a :: l, i + 1, h => by
    have := count_set l i (by simpa using h)
    simp only [List.set_cons_succ, List.count_cons]
    omega
theorem set_id {α : Type} {l : List α} {k : Nat} {x : α} (h : l[k]? = some x) : l.set k x = l := by
  apply List.ext_getElem?
  intro j
  rw [List.getElem?_set]
  by_cases e : k = j
  · subst e; simp [h]; exact (List.getElem?_eq_some_iff.1 h).1
  · simp [e]
/-- A set table's shape. -/
structure Shape (m n : Nat) (s : List Bool × List (List Bool)) : Prop where
  e : s.1.length = n
  f : s.2.length = n
  rows : ∀ (i : Nat) (row : List Bool), s.2[i]? = some row → row.length = m
theorem Shape.init (m n : Nat) : Shape m n (initS m n) := ⟨by simp [initS], by simp [initS], fun i row h => by simp [initS, List.getElem?_replicate] at h; rw [← h.2]; simp⟩
theorem Shape.step {m n : Nat} {s : List Bool × List (List Bool)} (h : Shape m n s) (q : Rule) (hq : q.left.toNat < n) : Shape m n (stepR m q s) := by
  refine ⟨?_, by simp [stepR, h.f], fun i row hi => ?_⟩
  · simp only [stepR]; split <;> simp [h.e]
  · simp only [stepR, List.getElem?_set] at hi
    split at hi
    · split at hi
      · simp at hi
        subst hi
        rw [orRow_len]
        have h1 : q.left.toNat < s.2.length := by rw [h.f]; exact hq
        have h2 := h.rows _ _ (List.getElem?_eq_getElem h1)
        rw [List.getElem?_eq_getElem h1]
        exact h2
      · simp at hi
    · exact h.rows i row hi
theorem stepR_falses {m n : Nat} {s : List Bool × List (List Bool)} (h : Shape m n s) (q : Rule) (hq : q.left.toNat < n) : falses (stepR m q s) ≤ falses s ∧ (stepR m q s ≠ s → falses (stepR m q s) < falses s) := by
  obtain ⟨e, f⟩ := s
  have he : q.left.toNat < e.length := by have := h.e; simp at this; omega
  have hf : q.left.toNat < f.length := by have := h.f; simp at this; omega
  obtain ⟨ev, hev⟩ : ∃ v, e[q.left.toNat]? = some v := ⟨_, List.getElem?_eq_getElem he⟩
  obtain ⟨row, hrow⟩ : ∃ v, f[q.left.toNat]? = some v := ⟨_, List.getElem?_eq_getElem hf⟩
  have hgd : f.getD q.left.toNat [] = row := by rw [List.getD_eq_getElem?_getD, hrow]; rfl
  generalize hof : ofFrom e f (List.replicate m false) q.right = o
  have hs : stepR m q (e, f) = (if o.2 then e.set q.left.toNat true else e, f.set q.left.toNat (orRow row o.1)) := by simp only [stepR, hof, hgd]
  have hc := orRow_cnt row o.1
  have h1 := sum_set (f.map fun r => r.count false) q.left.toNat (row.count false) ((orRow row o.1).count false) (by rw [List.getElem?_map, hrow]; rfl)
  have h2 : (f.set q.left.toNat (orRow row o.1)).map (fun r => r.count false) = (f.map fun r => r.count false).set q.left.toNat ((orRow row o.1).count false) := by rw [List.map_set]
  rw [hs]
  simp only [falses, h2]
  have hrow' : orRow row o.1 = row → f.set q.left.toNat (orRow row o.1) = f := fun e => by rw [e]; exact set_id hrow
  by_cases ho : o.2 = true
  · rw [if_pos ho]
    cases ev
    · have h3 := count_set e _ hev
      exact ⟨by omega, fun _ => by omega⟩
    · rw [set_id hev]
      refine ⟨by omega, fun hne => ?_⟩
      have := hc.2 (fun e' => hne (by rw [hrow' e']))
      omega
  · rw [if_neg ho]
    refine ⟨by omega, fun hne => ?_⟩
    have := hc.2 (fun e' => hne (by rw [hrow' e']))
    omega
theorem closed_of {g : Gram} {m : Nat} {e : List Bool} {f : List (List Bool)} (hs : Shape m g.nons.toNat (e, f)) (hl : ∀ q ∈ g.rules, q.left.toNat < g.nons.toNat) (h : ∀ q ∈ g.rules, stepR m q (e, f) = (e, f)) : ClosedS g m e f := by
  refine ⟨fun n hn => ?_, fun q hq j hj => ?_, fun q hq ho => ?_⟩
  · have h1 : n < f.length := by have := hs.f; simp at this; omega
    rw [List.getD_eq_getElem?_getD, List.getElem?_eq_getElem h1]
    exact hs.rows n _ (List.getElem?_eq_getElem h1)
  · have h1 : q.left.toNat < f.length := by have := hs.f; have := hl q hq; simp at *; omega
    have h2 := congrArg (fun s => s.2[q.left.toNat]?) (h q hq)
    simp only [stepR, List.getElem?_set] at h2
    rw [if_pos trivial, if_pos h1] at h2
    rw [List.getD_eq_getElem?_getD, ← h2]
    simp only [Option.getD_some]
    refine orRow_right _ _ _ ?_ hj
    rw [ofFrom_len, List.length_replicate, List.getD_eq_getElem?_getD, List.getElem?_eq_getElem h1]
    exact hs.rows _ _ (List.getElem?_eq_getElem h1)
  · have h1 : q.left.toNat < e.length := by have := hs.e; have := hl q hq; simp at *; omega
    have h2 := congrArg (fun s => s.1) (h q hq)
    simp only [stepR] at h2
    rw [if_pos ho] at h2
    rw [← h2, List.getD_eq_getElem?_getD, List.getElem?_set, if_pos rfl, if_pos h1]
    rfl
end Go.Proofs.Ytpkfalhpkkponaa
