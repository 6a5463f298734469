/- The union of made grammars is valid. No program is named here. -/
import Derived.Test.YtnlpeiffbnlncaaDoorQConcChk
import Derived.Test.YtnlpeiffbnlncaaDoorQUniP
namespace Go.Proofs.YtnlpeiffbnlncaaDoor
set_option linter.unusedVariables false

theorem union_check {g h : Gram} (hg : Made g) (hh : Made h) (ht : h.terms = g.terms) : checkI (uniG g h) = 0 ∧ g.nons + h.nons + 1 ≤ 10 := by
  have hin := made_in hg
  have hin2 := made_in hh
  obtain ⟨g1, g2, g3, g4, g5, g6, g7, g8, g9, g10⟩ := hg
  obtain ⟨k1, k2, k3, k4, k5, k6, k7, k8, k9, k10⟩ := hh
  refine ⟨?_, by omega⟩
  unfold checkI
  rw [if_neg (by unfold gramBad uniG; dsimp only; omega), if_neg (by unfold uniG; simp; omega)]
  refine chk_ok [] (uniG g h).rules ?_ ?_
  · rw [List.nil_append]
    unfold uniG
    rw [map_shR_zero]
    refine List.nodup_append.2 ⟨List.nodup_append.2 ⟨g9, nodup_inj (fun a b => shR_inj) k9, fun a ha b hb he => ?_⟩, by simp; omega, fun a ha b hb he => ?_⟩
    · have h1 := (hin a ha).1
      obtain ⟨q, hq, rfl⟩ := List.mem_map.1 hb
      have h2 := (hin2 q hq).1
      subst he
      unfold shR at h1
      dsimp only at h1
      omega
    · subst he
      have hl : a.left = g.nons + h.nons := by
        simp at hb
        rcases hb with rfl | rfl <;> rfl
      rcases List.mem_append.1 ha with ha | ha
      · have h1 := (hin _ ha).1
        omega
      · obtain ⟨q, hq, he⟩ := List.mem_map.1 ha
        have h2 := (hin2 q hq).1
        subst he
        simp only [shR] at hl
        omega
  · intro r hr
    unfold uniG at hr ⊢
    dsimp only at hr ⊢
    rcases List.mem_append.1 hr with hm | hm
    · rcases List.mem_append.1 hm with hm | hm
      · obtain ⟨q, hq, rfl⟩ := List.mem_map.1 hm
        exact shR_ok (g10 q hq) (by omega) (by omega)
      · obtain ⟨q, hq, rfl⟩ := List.mem_map.1 hm
        exact shR_ok (ruleOk_more (k10 q hq) ht.symm) (by omega) (by omega)
    · simp at hm
      rcases hm with rfl | rfl
      · refine ⟨by dsimp only; omega, by dsimp only; omega, by simp, fun s hs => ?_⟩
        simp at hs
        subst hs
        simp [SymOk]; omega
      · refine ⟨by dsimp only; omega, by dsimp only; omega, by simp, fun s hs => ?_⟩
        simp at hs
        subst hs
        simp [SymOk]; omega
end Go.Proofs.YtnlpeiffbnlncaaDoor
