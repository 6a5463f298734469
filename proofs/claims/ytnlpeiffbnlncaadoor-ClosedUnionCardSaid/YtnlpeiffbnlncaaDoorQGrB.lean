/- What the shelf's sort asks of a comparison: what lay stays, new blocks come behind it; gram.Order so. -/
import Derived.Test.YtnlpeiffbnlncaaDoorQOrd
import Derived.Sort.Grow
namespace Go.Proofs.YtnlpeiffbnlncaaDoor
open Go.RowKit
set_option linter.unusedVariables false

/-- Draws, and new blocks behind what lay. -/
def Gr (w w' : World) : Prop := ∃ (q : Nat) (os : Array Obj), w' = Go.Sort.grow (w.drewN q) os
theorem Gr.refl (w : World) : Gr w w := ⟨0, #[], by rw [Go.Sort.grow_empty]; rfl⟩
theorem Gr.trans {a b c : World} (h : Gr a b) (k : Gr b c) : Gr a c := by
  obtain ⟨q, os, rfl⟩ := h
  obtain ⟨p, ot, rfl⟩ := k
  refine ⟨q + p, os ++ ot, ?_⟩
  unfold Go.Sort.grow World.drewN
  simp only [Array.append_assoc, Nat.add_assoc]
theorem Gr.alloc {a b : World} (h : Gr a b) (o : Obj) : Gr a (b.alloc o) := h.trans ⟨0, #[o], by rw [Go.Sort.alloc_eq_grow]; rfl⟩
theorem Gr.drew {a b : World} (h : Gr a b) : Gr a b.drew := h.trans ⟨1, #[], by rw [Go.Sort.grow_empty]; rfl⟩
theorem Gr.undrew {a b : World} (h : Gr a.drew b) : Gr a b := ((Gr.refl a).drew).trans h
theorem Gr.below {a b : World} (h : Gr a b) : Below a.heap.size a b := by
  obtain ⟨q, os, rfl⟩ := h
  refine ⟨rfl, rfl, rfl, by simp [Go.Sort.grow, World.drewN], fun k hk => ?_⟩
  show (a.heap ++ os)[k]? = a.heap[k]?
  rw [Array.getElem?_append_left hk]

theorem order_Gr (t t' : Bool) (z z' : Int) (w : World) : Calls Tryd.prog 110 #[.agg #[.bool t, .int .i64 z], .agg #[.bool t', .int .i64 z']] w fun e w' => e = .returned (.int .i64 (symCmp ⟨t, z⟩ ⟨t', z'⟩)) ∧ Gr w w' := by
  cases t <;> cases t' <;> (
    go_enter Tryd.func110, Tryd.ntmps110
    go_wp2_with (go_at_call 105; refine (cmpInt_any _ _ _).mono ?_; rintro e w' ⟨rfl, rfl⟩)
    go_ret
    exact ⟨ret_int (by simp [symCmp]), ((Gr.refl _).alloc _).alloc _⟩)
end Go.Proofs.YtnlpeiffbnlncaaDoor
