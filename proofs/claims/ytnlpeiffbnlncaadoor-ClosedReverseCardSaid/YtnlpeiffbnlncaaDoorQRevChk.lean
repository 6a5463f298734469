/- The reversed grammar of a made one is made, so valid. No program is named here. -/
import Derived.Test.YtnlpeiffbnlncaaDoorQStarChk
import Derived.Test.YtnlpeiffbnlncaaDoorQw2
namespace Go.Proofs.YtnlpeiffbnlncaaDoor
set_option linter.unusedVariables false

theorem made_rev {g : Gram} (h : Made g) : Made (revG g) := by
  obtain ⟨m1, m2, m3, m4, m5, m6, m7, m8, m9, m10⟩ := h
  refine ⟨m1, m2, m3, m4, m5, m6, by simpa [revG] using m7, by simpa [revG] using m8, ?_, fun r hr => ?_⟩
  · simp only [revG]
    refine nodup_inj (fun a b e => ?_) m9
    obtain ⟨a1, a2⟩ := a
    obtain ⟨b1, b2⟩ := b
    simp only [revR] at e
    injection e with e1 e2
    rw [e1, List.reverse_inj.1 e2]
  · simp only [revG] at hr ⊢
    obtain ⟨q, hq, rfl⟩ := List.mem_map.1 hr
    obtain ⟨r1, r2, r3, r4⟩ := m10 q hq
    exact ⟨r1, r2, by simpa [revR] using r3, fun s hs => r4 s (by simpa [revR] using hs)⟩
theorem rev_check {g : Gram} (h : Made g) : checkI (revG g) = 0 := made_ok (made_rev h)
end Go.Proofs.YtnlpeiffbnlncaaDoor
