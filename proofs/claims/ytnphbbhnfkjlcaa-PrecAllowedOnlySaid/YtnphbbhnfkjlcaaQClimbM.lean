/- The map of the rules' numbers, as a datum; the rows of the flat grammar by their place. -/
import Derived.Test.YtnphbbhnfkjlcaaQClimbAllowP
import Derived.Maps.Own
import Derived.Maps.Views
namespace Go.Proofs.Ytnphbbhnfkjlcaa
open Go.RowKit
set_option linter.unusedVariables false

/-- Of the first j rules those of operators are in the map. -/
def MapOk (t : Table) (j : Nat) (D : DataW Unit) : Prop := Maps.IsMap D ∧ ∀ (m : Nat) (op : Int), (opsL t)[m]? = some op → baseN t + m < j → D.atKey (.int .i64 op) (.lit (.int .i64 0)) = .lit (.int .i64 ((baseN t + m : Nat) : Int))
theorem MapOk.low {t : Table} {j : Nat} {D : DataW Unit} (h : MapOk t j D) (hj : j < baseN t) : MapOk t (j + 1) D :=
  ⟨h.1, fun m op hm hl => h.2 m op hm (by omega)⟩
theorem lit_int_ne {a b : Int} (h : a ≠ b) : (Lit.int .i64 a) ≠ Lit.int .i64 b := fun e => h (Lit.int.inj e).2
theorem MapOk.put {t : Table} {m : Nat} {D : DataW Unit} {op : Int} (hv : Valid t) (h : MapOk t (baseN t + m) D) (hm : (opsL t)[m]? = some op) : MapOk t (baseN t + m + 1) (D.put (.int .i64 op) (.lit (.int .i64 ((baseN t + m : Nat) : Int)))) := by
  refine ⟨h.1.put _ _, fun m' op' hm' hl => ?_⟩
  by_cases e : op' = op
  · subst e
    have e1 := idx_of_nodup (opsL t) m op' hv.opsN hm
    have e2 := idx_of_nodup (opsL t) m' op' hv.opsN hm'
    rw [Maps.atKey_put_same h.1 (show WideAt.IsKeyLit (.int .i64 op') from trivial)]
    rw [show m' = m by omega]
  · rw [Maps.atKey_put_other (lit_int_ne e)]
    refine h.2 m' op' hm' ?_
    rcases Nat.lt_or_ge m' m with h1 | h1
    · omega
    · have : m' = m := by omega
      subst this
      rw [hm] at hm'
      injection hm' with e'
      exact absurd e'.symm e
theorem flatR_len (t : Table) : (flatRules t).length = baseN t + (opsL t).length := by
  unfold flatRules baseN opsL
  cases brk t
  · simp only [Bool.false_eq_true, if_false, List.nil_append, List.length_cons, levRules_len]; omega
  · simp only [if_true, List.cons_append, List.nil_append, List.length_cons, levRules_len]; omega
theorem MapOk.all {t : Table} {D : DataW Unit} (h : MapOk t (flatRules t).length D) : ∀ op ∈ opsL t, D.atKey (.int .i64 op) (.lit (.int .i64 0)) = .lit (.int .i64 (rulOf t op)) := by
  intro op ho
  have h1 : (opsL t).idxOf op < (opsL t).length := List.idxOf_lt_length_of_mem ho
  have h2 : (opsL t)[(opsL t).idxOf op]? = some op := by rw [List.getElem?_eq_getElem h1, List.getElem_idxOf]
  exact h.2 _ op h2 (by rw [flatR_len]; omega)
/-- A rule of the flat grammar by its place. -/
theorem flat_kind (t : Table) (j : Nat) (q : Rule) (h : (flatRules t)[j]? = some q) : (j < baseN t ∧ (flatLev t)[j]? = some (t.levels.length : Int)) ∨
    ∃ (m i : Nat) (op : Int), j = baseN t + m ∧ (opsL t)[m]? = some op ∧ (flatLev t)[j]? = some (i : Int) ∧ i < t.levels.length ∧ 2 ≤ q.right.length ∧ q.right.length ≤ 3 ∧ q.right[q.right.length - 2]? = some ⟨true, op⟩ := by
  have hop : ∀ m : Nat, ((t.levels.map levRules).flatten)[m]? = some q → (flatLev t)[j]? = (levFrom 0 t.levels)[m]? → j = baseN t + m → ∃ (m i : Nat) (op : Int), j = baseN t + m ∧ (opsL t)[m]? = some op ∧ (flatLev t)[j]? = some (i : Int) ∧ i < t.levels.length ∧ 2 ≤ q.right.length ∧ q.right.length ≤ 3 ∧ q.right[q.right.length - 2]? = some ⟨true, op⟩ := by
    intro m hm hfl hi
    obtain ⟨i, l, op, g1, g2, g3, g4, g5⟩ := lev_getO t.levels 0 m q hm
    refine ⟨m, i, op, hi, g5, by rw [hfl, g1]; simp, (List.getElem?_eq_some_iff.1 g2).1, ?_⟩
    subst g4
    unfold opRule
    dsimp only
    split <;> simp
  unfold flatRules at h
  match j, h, hop with
  | 0, h, _ =>
    left
    exact ⟨by unfold baseN; split <;> omega, rfl⟩
  | j + 1, h, hop =>
    simp only [List.getElem?_cons_succ] at h
    cases hb : brk t
    · rw [hb] at h
      simp only [Bool.false_eq_true, if_false, List.nil_append] at h
      exact .inr (hop j h (by unfold flatLev; rw [hb]; simp) (by unfold baseN; rw [hb]; simp; omega))
    · rw [hb] at h
      simp only [if_true, List.cons_append, List.nil_append] at h
      match j, h, hop with
      | 0, h, _ =>
        left
        exact ⟨by unfold baseN; rw [hb]; simp, by unfold flatLev; rw [hb]; rfl⟩
      | j + 1, h, hop =>
        simp only [List.getElem?_cons_succ] at h
        exact .inr (hop j h (by unfold flatLev; rw [hb]; simp) (by unfold baseN; rw [hb]; simp; omega))
end Go.Proofs.Ytnphbbhnfkjlcaa
