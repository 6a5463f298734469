/- A world that has kept all its blocks but those of a set. No program is named here. -/
import Derived.Test.YtabehgggahnopaaApp
namespace Go.Proofs.Ytabehgggahnopaa
open Go.RowKit
set_option linter.unusedVariables false

/-- w' is w with new blocks, and with writes to blocks of X alone. -/
structure Kept (X : Nat → Prop) (w w' : World) : Prop where
  os : w'.os = w.os
  tape : w'.tape = w.tape
  output : w'.output = w.output
  size : w.heap.size ≤ w'.heap.size
  block : ∀ k, k < w.heap.size → ¬ X k → w'.heap[k]? = w.heap[k]?
section
variable {X Y : Nat → Prop} {w w' w'' : World}
theorem Kept.refl (X : Nat → Prop) (w : World) : Kept X w w := ⟨rfl, rfl, rfl, Nat.le_refl _, fun _ _ _ => rfl⟩
theorem Kept.trans (h : Kept X w w') (k : Kept X w' w'') : Kept X w w'' :=
  ⟨k.os.trans h.os, k.tape.trans h.tape, k.output.trans h.output, Nat.le_trans h.size k.size, fun i hi hx => (k.block i (Nat.lt_of_lt_of_le hi h.size) hx).trans (h.block i hi hx)⟩
theorem Kept.mono (h : Kept X w w') (hx : ∀ b, b < w.heap.size → X b → Y b) : Kept Y w w' := ⟨h.os, h.tape, h.output, h.size, fun k hk hy => h.block k hk (fun hb => hy (hx k hk hb))⟩
theorem Kept.of_below (X : Nat → Prop) (h : Below w.heap.size w w') : Kept X w w' := ⟨h.os, h.tape, h.output, h.size, fun k hk _ => h.block k hk⟩
theorem Kept.of_grown {row : Option Nat} (h : w.grownBy w' row) (hX : ∀ k, row = some k → X k) : Kept X w w' := ⟨h.os, h.tape, h.output, h.size, fun k hk hx => h.block k hk (fun e => hx (hX k e.symm))⟩
theorem Kept.alloc (h : Kept X w w') (o : Obj) : Kept X w (w'.alloc o) := h.trans (Kept.of_below X ((Below.refl _ _).alloc (Nat.le_refl _) o))
theorem Kept.drew (h : Kept X w w') : Kept X w w'.drew := ⟨h.os, h.tape, h.output, h.size, h.block⟩
theorem Kept.below (h : Kept X w w') (k : Below w'.heap.size w' w'') : Kept X w w'' := h.trans (Kept.of_below X k)
theorem Kept.grown {row : Option Nat} (h : Kept X w w') (k : w'.grownBy w'' row) (hX : ∀ k, row = some k → X k ∨ w.heap.size ≤ k) : Kept X w w'' :=
  ⟨k.os.trans h.os, k.tape.trans h.tape, k.output.trans h.output, Nat.le_trans h.size k.size, fun i hi hx => (k.block i (Nat.lt_of_lt_of_le hi h.size) (fun e => by
    rcases hX i e.symm with q | q
    · exact hx q
    · omega)).trans (h.block i hi hx)⟩
theorem Kept.setCell (h : Kept X w w') {p : Addr} (hp : X p.block ∨ w.heap.size ≤ p.block) (u : Value) : Kept X w (w'.setCell p u) :=
  ⟨h.os, h.tape, h.output, by simpa [World.setCell] using h.size, fun i hi hx => (Below.heap_setCell _ _ _ _ (by
    rintro rfl
    rcases hp with q | q
    · exact hx q
    · omega)).trans (h.block i hi hx)⟩
theorem Kept.to_below {B : Nat} (h : Kept X w w') (hX : ∀ b, X b → B ≤ b) (hB : B ≤ w.heap.size) : Below B w w' :=
  ⟨h.os, h.tape, h.output, h.size, fun k hk => h.block k (by omega) (fun hx => by have := hX k hx; omega)⟩
theorem Kept.later (h : Kept X w w') (k : Kept Y w' w'') (hY : ∀ b, Y b → X b ∨ w.heap.size ≤ b) : Kept X w w'' :=
  ⟨k.os.trans h.os, k.tape.trans h.tape, k.output.trans h.output, Nat.le_trans h.size k.size, fun i hi hx => (k.block i (Nat.lt_of_lt_of_le hi h.size) (fun hy => by
    rcases hY i hy with q | q
    · exact hx q
    · omega)).trans (h.block i hi hx)⟩
theorem Kept.undrew {w : World} (h : Kept X w.drew w') : Kept X w w' := ⟨h.os, h.tape, h.output, h.size, h.block⟩
theorem Kept.cell {p : Addr} (h : Kept X w w') (hp : p.block < w.heap.size) (hx : ¬ X p.block) : w'.cell? p = w.cell? p := World.cell?_of_block (h.block p.block hp hx)
theorem Blk'.kept {g : Nat} {t : TypeId} {cs : Array Value} (h : Blk' w g t cs) (k : Kept X w w') (hx : ¬ X g) : Blk' w' g t cs := (k.block g h.lt hx).trans h
theorem Els.kept {α : Type} [Dat α] {S : Nat → Prop} {xs : List α} {A : Option Addr} (h : Els w S xs A) (k : Kept X w w') (hx : ∀ b, S b → ¬ X b) : Els w' S xs A :=
  h.keep (fun p hs hp => k.cell hp (hx _ hs)) (fun _ h => h)
theorem Vl.kept {α : Type} [Dat α] {S : Nat → Prop} {x : α} {v : Value} (h : Vl w S x v) (k : Kept X w w') (hx : ∀ b, S b → ¬ X b) : Vl w' S x v :=
  h.keep (fun p hs hp => k.cell hp (hx _ hs)) (fun _ h => h)
theorem Own.kept {α : Type} [Dat α] {S : Nat → Prop} {base : Nat} {e : TypeId} {v : Value} {xs : List α} (h : Own w S base e v xs) (k : Kept X w w') (hx : ∀ b, X b → ¬ (S b ∨ base ≤ b)) : Own w' S base e v xs := by
  obtain ⟨css, h1, h2, h3⟩ := h
  have hg : ∀ g, v.ownBlock = some g → w'.heap[g]? = w.heap[g]? := fun g hg => k.block g (h1.lt g hg).2 (fun hX => hx g hX (.inr (h1.lt g hg).1))
  refine ⟨css, ?_, h2, fun i x cs hi hc => Dat.keep (fun p hp hlt => k.cell hlt (fun hX => hx _ hX hp.1)) (fun b hb => ⟨hb.1, hb.2.1, Nat.lt_of_lt_of_le hb.2.2 k.size⟩) (h3 i x cs hi hc)⟩
  refine ⟨h1.1, ?_⟩
  rcases h1.2 with q | ⟨g, cap, cur, q1, q2, q3, q4⟩
  · exact .inl q
  · exact .inr ⟨g, cap, cur, q1, q2, (hg g (by rw [q1]; rfl)).trans q3, q4⟩
end
end Go.Proofs.Ytabehgggahnopaa
