/- Plain: the trees of the factored grammar answer to those of the grammar. No program is named here. -/
import Derived.Test.YtjdojogjogenkaaDoorQFacNext
import Derived.Test.YtjdojogjogenkaaDoorQp2
namespace Go.Proofs.YtjdojogjogenkaaDoor
set_option linter.unusedVariables false
def stepT (s : StepR) : Tree → Tree := ftT s.tos s.tails s.cm.toNat s.hd
def stepB (s : StepR) : Tree → Tree := fbT s.tos s.tails s.cm.toNat s.hd
def runT (ss : List StepR) (t : Tree) : Tree := ss.foldl (fun t s => stepT s t) t
def unrunT (ss : List StepR) (u : Tree) : Tree := ss.foldr (fun s u => stepB s u) u
theorem runT_snoc (ss : List StepR) (s : StepR) : runT (ss ++ [s]) = stepT s ∘ runT ss := by funext t; simp [runT, List.foldl_append]
theorem unrunT_snoc (ss : List StepR) (s : StepR) : unrunT (ss ++ [s]) = unrunT ss ∘ stepB s := by funext t; simp [unrunT, List.foldr_append]
theorem next_bij {h : Gram} {m : Nat} {x : Sym} (hv : ValidG h) (ha : NextAt h m x) : TreeBij h (nextG h (placesN h (m : Int) x)) (stepT (stepOf h (placesN h (m : Int) x))) (stepB (stepOf h (placesN h (m : Int) x))) := by
 have hn := places_nxt ha.mem
 have hf := fac_ok hv (hn.fac).1
 have hb := fac_bij hf hv.s1
 unfold stepT stepB stepOf
 dsimp only
 rw [Int.toNat_natCast]
 exact hb
theorem FacRun.bij {g h : Gram} {ss : List StepR} (hc : checkI g = 0) (hr : FacRun g ss h) : checkI h = 0 ∧ h.start = g.start ∧ h.terms = g.terms ∧ TreeBij g h (runT ss) (unrunT ss) := by
 induction hr with
 | nil => exact ⟨hc, rfl, rfl, TreeBij.refl g⟩
 | snoc ss h m x _ hn ha hk ih =>
  obtain ⟨i1, i2, i3, i4⟩ := ih
  refine ⟨hk, i2, i3, ?_⟩
  rw [runT_snoc, unrunT_snoc]
  exact i4.trans (next_bij (validG_of i1) ha)
theorem fac_count {g h : Gram} {ss : List StepR} {ws : List Int} {a b : Int} (hc : checkI g = 0) (hr : FacRun g ss h) (ha : CntIs (TreesOf g ws) a) (hb : CntIs (TreesOf h ws) b) : a = b :=
 (FacRun.bij hc hr).2.2.2.count ha hb
end Go.Proofs.YtjdojogjogenkaaDoor
