/- Plain law: the layered grammar of a valid table is a valid grammar. No program is named here. -/
import Derived.Test.YtjdojogjogenkaaDoorQPrecUnP
import Derived.Test.YtjdojogjogenkaaDoorQStarChk
namespace Go.Proofs.YtjdojogjogenkaaDoor
open Go.RowKit
set_option linter.unusedVariables false

theorem layRule_inj {kd k a b : Int} (h0 : 0 ≤ kd) (h3 : kd ≤ 3) (h : layRule kd k a = layRule kd k b) : a = b := by
  unfold layRule at h
  simp only [Rule.mk.injEq, true_and] at h
  split at h
  · simpa using h
  split at h
  · simpa using h
  split at h
  · simpa using h
  · simpa using h
theorem layRule_unit {kd k a : Int} (h : layRule kd k a = ⟨k, [⟨false, k + 1⟩]⟩) : False := by
  unfold layRule at h
  simp only [Rule.mk.injEq, true_and] at h
  split at h
  · simp at h
  split at h
  · simp at h
  split at h
  · simp at h
  · simp at h
theorem layFrom_nodup : ∀ (ls : List Level) (k : Nat), (∀ l ∈ ls, 0 ≤ l.kind ∧ l.kind ≤ 3) → ((ls.map Level.ops).flatten).Nodup → (layFrom k ls).Nodup
  | [], _, _, _ => by simp [layFrom]
  | l :: ls, k, hk, hn => by
    simp only [List.map_cons, List.flatten_cons] at hn
    obtain ⟨n1, n2, _⟩ := List.nodup_append.1 hn
    have kk := hk l (by simp)
    have far : ∀ q ∈ layFrom (k + 1) ls, ((k + 1 : Nat) : Int) ≤ q.left := fun q hq => by
      obtain ⟨i, hi⟩ := List.getElem?_of_mem hq
      exact (layFrom_left ls (k + 1) i q hi).1
    unfold layFrom
    refine List.nodup_append.2 ⟨?_, List.nodup_cons.2 ⟨fun h => ?_, layFrom_nodup ls (k + 1) (fun l h => hk l (by simp [h])) n2⟩, fun a ha b hb he => ?_⟩
    · unfold List.Nodup at n1 ⊢
      rw [List.pairwise_map]
      exact n1.imp (fun h e => h (layRule_inj kk.1 kk.2 e))
    · have := far _ h
      dsimp only at this
      omega
    · obtain ⟨o, _, rfl⟩ := List.mem_map.1 ha
      subst he
      rcases List.mem_cons.1 hb with h | h
      · exact layRule_unit h
      · have := far _ h
        simp only [layRule] at this
        omega
theorem layRule_ok {t n kd k op : Int} (h0 : 0 ≤ k) (h1 : k + 1 < n) (ho : 0 ≤ op ∧ op < t) : RuleOk t n (layRule kd k op) := by
  unfold layRule
  refine ⟨h0, by dsimp only; omega, ?_, ?_⟩
  · dsimp only
    split
    · simp
    split
    · simp
    split
    · simp
    · simp
  · intro s hs
    have key : s = ⟨false, k⟩ ∨ s = ⟨false, k + 1⟩ ∨ s = ⟨true, op⟩ := by
      dsimp only at hs
      split at hs
      · simp at hs; rcases hs with h | h | h <;> simp [h]
      split at hs
      · simp at hs; rcases hs with h | h | h <;> simp [h]
      split at hs
      · simp at hs; rcases hs with h | h | h <;> simp [h]
      · simp at hs; rcases hs with h | h <;> simp [h]
    rcases key with rfl | rfl | rfl <;> unfold SymOk <;> simp <;> omega
theorem layRules_eqs {t : Table} (hv : Valid t) : (layRules (brk t) t).Nodup ∧ ∀ q ∈ layRules (brk t) t, RuleOk t.terms ((t.levels.length : Int) + 1) q := by
  have ha := hv.atom
  have hL := hv.levels
  constructor
  · unfold layRules
    refine List.nodup_append.2 ⟨layFrom_nodup t.levels 0 hv.kinds hv.opsN, ?_, fun a ha b hb he => ?_⟩
    · unfold layTailR
      cases brk t <;> simp
    · subst he
      obtain ⟨i, hi⟩ := List.getElem?_of_mem ha
      have h1 := (layFrom_left t.levels 0 i a hi).2
      have h2 : a.left = (t.levels.length : Int) := by
        unfold layTailR at hb
        cases hc : brk t
        · rw [hc] at hb; simp at hb; rw [hb]
        · rw [hc] at hb; simp at hb; rcases hb with h | h <;> rw [h]
      omega
  · intro q hq
    unfold layRules at hq
    rcases List.mem_append.1 hq with hq | hq
    · obtain ⟨i, hi⟩ := List.getElem?_of_mem hq
      rcases lay_get t.levels 0 0 i q hi with ⟨j, m, l, op, g1, g2, rfl, _⟩ | ⟨j, g1, rfl, _⟩
      · have h := op_range hv (List.mem_of_getElem? g1) g2
        have hj := (List.getElem?_eq_some_iff.1 g1).1
        exact layRule_ok (by omega) (by omega) h
      · refine ⟨by dsimp only; omega, by dsimp only; omega, by simp, fun s hs => ?_⟩
        simp at hs
        subst hs
        unfold SymOk
        simp
        omega
    · unfold layTailR at hq
      rcases List.mem_cons.1 hq with rfl | hq
      · refine ⟨by dsimp only; omega, by dsimp only; omega, by simp, fun s hs => ?_⟩
        simp at hs
        subst hs
        unfold SymOk
        simp
        omega
      · cases hc : brk t
        · rw [hc] at hq; simp at hq
        · rw [hc] at hq
          have hb := brk_range hv hc
          simp at hq
          subst hq
          refine ⟨by dsimp only; omega, by dsimp only; omega, by simp, fun s hs => ?_⟩
          simp at hs
          rcases hs with rfl | rfl | rfl <;> unfold SymOk <;> simp <;> omega
theorem lay_check {t : Table} (h0 : precCheck t = 0) : checkI (layG t) = 0 := by
  have hv := valid_of h0
  have eG : layG t = ⟨t.terms, (t.levels.length : Int) + 1, 0, layRules (brk t) t⟩ := by unfold layG; rw [if_pos h0]
  have hL := hv.levels
  have hT := hv.terms
  have hO := hv.ops
  rw [eG]
  unfold checkI
  rw [if_neg (by unfold gramBad; dsimp only; omega), if_neg (by dsimp only; unfold layRules layTailR; simp only [List.length_append, layFrom_len]; split <;> simp only [List.length_cons, List.length_nil] <;> omega)]
  have eqs := layRules_eqs hv
  refine chk_ok [] (layRules (brk t) t) (by rw [List.nil_append]; exact eqs.1) eqs.2
end Go.Proofs.YtjdojogjogenkaaDoor
