/- What closed.Concat makes of made grammars is valid; more terminals do no harm. No program is named here. -/
import Derived.Test.YtnlpeiffbnlncaaDoorQStarChk
namespace Go.Proofs.YtnlpeiffbnlncaaDoor
set_option linter.unusedVariables false

theorem made_more {g : Gram} (h : Made g) {t : Int} (h1 : g.terms ≤ t) (h2 : t ≤ 3) : Made ⟨t, g.nons, g.start, g.rules⟩ := by
  obtain ⟨m1, m2, m3, m4, m5, m6, m7, m8, m9, m10⟩ := h
  refine ⟨by dsimp only; omega, h2, m3, m4, m5, m6, m7, m8, m9, fun r hr => ?_⟩
  obtain ⟨r1, r2, r3, r4⟩ := m10 r hr
  refine ⟨r1, r2, r3, fun s hs => ?_⟩
  obtain ⟨s1, s2⟩ := r4 s hs
  refine ⟨s1, ?_⟩
  dsimp only
  split at s2
  · rw [if_pos ‹_›]; omega
  · rw [if_neg ‹_›]; exact s2
theorem ruleOk_more {t n : Int} {r : Rule} (h : RuleOk t n r) {u : Int} (hu : u = t) : RuleOk u n r := hu ▸ h
theorem concat_check {g h : Gram} (hg : Made g) (hh : Made h) (ht : h.terms = g.terms) : checkI (concatG g h) = 0 := by
  have hin := made_in hg
  have hin2 := made_in hh
  obtain ⟨g1, g2, g3, g4, g5, g6, g7, g8, g9, g10⟩ := hg
  obtain ⟨k1, k2, k3, k4, k5, k6, k7, k8, k9, k10⟩ := hh
  unfold checkI
  rw [if_neg (by unfold gramBad concatG; dsimp only; omega), if_neg (by unfold concatG; simp; omega)]
  refine chk_ok [] (concatG g h).rules ?_ ?_
  · rw [List.nil_append]
    unfold concatG
    rw [map_shR_zero]
    refine List.nodup_append.2 ⟨List.nodup_append.2 ⟨g9, nodup_inj (fun a b => shR_inj) k9, fun a ha b hb he => ?_⟩, by simp, fun a ha b hb he => ?_⟩
    · have h1 := (hin a ha).1
      obtain ⟨q, hq, rfl⟩ := List.mem_map.1 hb
      have h2 := (hin2 q hq).1
      subst he
      unfold shR at h1
      dsimp only at h1
      omega
    · simp at hb
      subst he
      subst hb
      rcases List.mem_append.1 ha with ha | ha
      · have h1 := (hin _ ha).1
        dsimp only at h1
        omega
      · obtain ⟨q, hq, he⟩ := List.mem_map.1 ha
        have h2 := (hin2 q hq).1
        unfold shR at he
        injection he with he _
        omega
  · intro r hr
    unfold concatG at hr ⊢
    dsimp only at hr ⊢
    rcases List.mem_append.1 hr with hm | hm
    · rcases List.mem_append.1 hm with hm | hm
      · obtain ⟨q, hq, rfl⟩ := List.mem_map.1 hm
        exact shR_ok (g10 q hq) (by omega) (by omega)
      · obtain ⟨q, hq, rfl⟩ := List.mem_map.1 hm
        exact shR_ok (ruleOk_more (k10 q hq) ht.symm) (by omega) (by omega)
    · simp at hm
      subst hm
      refine ⟨by dsimp only; omega, by dsimp only; omega, by simp, fun s hs => ?_⟩
      simp at hs
      rcases hs with rfl | rfl
      · simp [SymOk]; omega
      · simp [SymOk]; omega
end Go.Proofs.YtnlpeiffbnlncaaDoor
