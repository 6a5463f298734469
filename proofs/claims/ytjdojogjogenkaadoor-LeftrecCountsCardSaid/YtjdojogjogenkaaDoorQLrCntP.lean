/- Plain: a word has as many trees in the grammar without left recursion. No program is named here. -/
import Derived.Test.YtjdojogjogenkaaDoorQLrLaw
import Derived.Test.YtjdojogjogenkaaDoorQp1
namespace Go.Proofs.YtjdojogjogenkaaDoor
set_option linter.unusedVariables false
theorem lr_count {g : Gram} {n : Nat} {ws : List Int} {a b : Int} (hv : ValidG g) (hgn : g.nons = (n : Int)) (ha : CntIs (TreesOf g ws) a) (hb : CntIs (TreesOf (strG g n) ws) b) : a = b := by
 have hs : (⟨false, g.start⟩ : Sym).term = true ∨ (⟨false, g.start⟩ : Sym).n < (n : Int) := .inr (by have := hv.s1; dsimp only; omega)
 refine CntIs.bij (thT g n) (bkT g n) (fun t ht => ?_) (fun u hu => ?_) ha hb
 ·obtain ⟨a1, a2, a3, _⟩ := (th_law hv hgn (nodesT t) t (Nat.le_refl _)).1 _ ht.1 hs
  exact ⟨⟨a1, by rw [a3]; exact ht.2⟩, a2⟩
 ·obtain ⟨b1, b2, _⟩ := (bk_law hv hgn (nodesT u) u (Nat.le_refl _)).1 _ hu.1 hs
  obtain ⟨a1, a2, a3, _⟩ := (th_law hv hgn (nodesT (bkT g n u)) (bkT g n u) (Nat.le_refl _)).1 _ b1 hs
  rw [b2] at a3
  exact ⟨⟨b1, by rw [← a3]; exact hu.2⟩, b2⟩
end Go.Proofs.YtjdojogjogenkaaDoor
