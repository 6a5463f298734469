/- A row of ints with cells behind it, for a reader. No program is named here. -/
import Derived.Test.YtagcnhiinmiklaaDoorQIntRow
import Derived.Test.YtagcnhiinmiklaaDoorQp1
namespace Go.Proofs.YtagcnhiinmiklaaDoor
open Go.RowKit
set_option linter.unusedVariables false

theorem els_islack {w : World} {S : Nat → Prop} {g : Nat} {t : TypeId} {ms : List Int} {z : Array Value} (hb : Blk' w g t (icells ms ++ z)) (h : ∀ v ∈ ms, I64 v) (hS : S g) : Els w S ms (some ⟨g, 0, none⟩) :=
  fun _ => ⟨g, 0, rfl, hS, fun i x hi => ⟨[.int .i64 x], ⟨rfl, h x (List.mem_of_getElem? hi)⟩, fun j u hu => by
    match j, hu with
    | 0, hu =>
      simp at hu; subst hu
      have e : 0 + i * Dat.size Int + 0 = i := by show 0 + i * 1 + 0 = i; omega
      rw [e, hb.cell, slack_get (by rw [icells_size]; exact (List.getElem?_eq_some_iff.1 hi).1)]
      exact icells_get hi⟩⟩
end Go.Proofs.YtagcnhiinmiklaaDoor
