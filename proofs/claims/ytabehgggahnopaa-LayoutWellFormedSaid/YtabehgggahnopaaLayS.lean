/- layout.Tokens' two rows (what comes out, the columns) in their boxes: how they stand from world to world. -/
import Derived.Test.YtabehgggahnopaaLayC
import Derived.Test.YtabehgggahnopaaKept
namespace Go.Proofs.Ytabehgggahnopaa
open Go.RowKit
set_option linter.unusedVariables false

section
variable {w w' : World} {S S' : Nat → Prop} {base : Nat} {e : TypeId} {v : Value} {α : Type} [Dat α] {xs : List α}
/-- A row of plain elements stays where its own block stays. -/
theorem Own.plain (hp : ∀ (w w' : World) (S S' : Nat → Prop) (x : α) (cs : List Value), Dat.rd w S x cs → Dat.rd w' S' x cs) (h : Own w S base e v xs) (hb : ∀ k, v.ownBlock = some k → w'.heap[k]? = w.heap[k]?) : Own w' S' base e v xs := by
  obtain ⟨css, h1, h2, h3⟩ := h
  refine ⟨css, ⟨h1.1, ?_⟩, h2, fun i x cs hi hc => hp _ _ _ _ _ _ (h3 i x cs hi hc)⟩
  rcases h1.2 with q | ⟨g, cap, cur, q1, q2, q3, q4⟩
  · exact .inl q
  · exact .inr ⟨g, cap, cur, q1, q2, (hb g (by rw [q1]; rfl)).trans q3, q4⟩
/-- A row cut shorter. -/
theorem Own.take {g n c : Nat} (h : Own w S base e (.slice (some ⟨g, 0, none⟩) n c) xs) {m : Nat} (hm : m ≤ xs.length) : Own w S base e (.slice (some ⟨g, 0, none⟩) m c) (xs.take m) := by
  obtain ⟨css, h1, h2, h3⟩ := h
  have hcl : ∀ cs ∈ css, cs.length = Dat.size α := by
    intro cs hcs
    obtain ⟨i, hi, rfl⟩ := List.getElem_of_mem hcs
    exact Dat.len (h3 i _ _ (List.getElem?_eq_getElem (by omega : i < xs.length)) (List.getElem?_eq_getElem hi))
  have hft : ∀ (l : List (List Value)), (∀ cs ∈ l, cs.length = Dat.size α) → ∀ m, (l.take m).flatten = l.flatten.take (m * Dat.size α) := by
    intro l
    induction l with
    | nil => intro _ m; simp
    | cons c l ih =>
      intro hl m
      cases m with
      | zero => simp
      | succ m =>
        have hc : c.length = Dat.size α := hl c (by simp)
        simp only [List.take_succ_cons, List.flatten_cons]
        have e1 : c.take ((m + 1) * Dat.size α) = c := List.take_of_length_le (by rw [hc, Nat.add_mul]; omega)
        have e2 : (m + 1) * Dat.size α - c.length = m * Dat.size α := by rw [hc, Nat.add_mul]; omega
        rw [ih (fun cs h => hl cs (by simp [h])) m, List.take_append, e1, e2]
  have hlen : (xs.take m).length = m := by rw [List.length_take]; omega
  refine ⟨css.take m, ⟨?_, ?_⟩, by rw [List.length_take, List.length_take, h2], fun i x cs hi hc => ?_⟩
  · rw [hft css hcl, List.length_take, h1.1, hlen]
    exact Nat.min_eq_left (Nat.mul_le_mul_right _ hm)
  · rcases h1.2 with ⟨q, _⟩ | ⟨g', cap, cur, q1, q2, q3, q4, q5, q6, q7⟩
    · cases q
    · injection q1 with q1 qn qc
      subst qc
      refine .inr ⟨g', c, cur, by rw [q1, hlen], q2, q3, by omega, q5, q6, ?_⟩
      rw [hft css hcl, ← q7, List.take_take, hlen, Nat.min_eq_left (Nat.mul_le_mul_right _ hm)]
  · have hi' : xs[i]? = some x := by rw [List.getElem?_take] at hi; split at hi; exact hi; cases hi
    have hc' : css[i]? = some cs := by rw [List.getElem?_take] at hc; split at hc; exact hc; cases hc
    exact Dat.keep (fun _ _ _ => rfl) (fun b hb => ⟨hb.1, (by simpa [Value.ownBlock] using hb.2.1), hb.2.2⟩) (h3 i x cs hi' hc')
end
theorem plainTok : ∀ (w w' : World) (S S' : Nat → Prop) (x : Tok) (cs : List Value), Dat.rd w S x cs → Dat.rd w' S' x cs := fun _ _ _ _ _ _ h => h
theorem plainInt : ∀ (w w' : World) (S S' : Nat → Prop) (x : Int) (cs : List Value), Dat.rd w S x cs → Dat.rd w' S' x cs := fun _ _ _ _ _ _ h => h

/-- The two rows on the way. X: blocks that stay. -/
def TkV (X : Nat → Prop) (z : Nat) (out : List Tok) (stk : List Int) (vo vs : Value) (w : World) : Prop :=
  Blk' w z 22 #[vo] ∧ Blk' w (z + 2) 38 #[vs] ∧ Own w (fun _ => False) (z + 3) 28 vo out ∧ Own w (fun _ => False) (z + 1) 3 vs stk ∧
    (∀ k, vs.ownBlock = some k → k ≠ z + 2) ∧ (∀ k, vo.ownBlock = some k → vs.ownBlock ≠ some k) ∧
    (∀ b, X b → b < w.heap.size ∧ b ≠ z ∧ b ≠ z + 2 ∧ vo.ownBlock ≠ some b ∧ vs.ownBlock ≠ some b)
def TkSt (X : Nat → Prop) (z : Nat) (out : List Tok) (stk : List Int) (w : World) : Prop := ∃ vo vs, TkV X z out stk vo vs w
section
variable {X Y : Nat → Prop} {z : Nat} {out : List Tok} {stk : List Int} {vo vs : Value} {w w' w'' : World}
theorem TkV.below (h : TkV X z out stk vo vs w) (hb : Below w.heap.size w w') : TkV X z out stk vo vs w' := by
  obtain ⟨h1, h2, h3, h4, h5, h6, h7⟩ := h
  exact ⟨h1.below hb h1.lt, h2.below hb h2.lt, h3.below hb (Nat.le_refl _), h4.below hb (Nat.le_refl _), h5, h6, fun b hx => ⟨Nat.lt_of_lt_of_le (h7 b hx).1 hb.size, (h7 b hx).2⟩⟩
theorem TkV.mono (h : TkV X z out stk vo vs w) (hY : ∀ b, Y b → X b) : TkV Y z out stk vo vs w := by
  obtain ⟨h1, h2, h3, h4, h5, h6, h7⟩ := h
  exact ⟨h1, h2, h3, h4, h5, h6, fun b hx => h7 b (hY b hx)⟩
/-- One more block that stays: one made since. -/
theorem TkV.guard (h : TkV X z out stk vo vs w) (hb : Below w.heap.size w w') {t : Nat} (ht : w.heap.size ≤ t) (ht' : t < w'.heap.size) : TkV (fun b => X b ∨ b = t) z out stk vo vs w' := by
  have h' := h.below hb
  obtain ⟨h1, h2, h3, h4, h5, h6, h7⟩ := h
  obtain ⟨g1, g2, g3, g4, g5, g6, g7⟩ := h'
  refine ⟨g1, g2, g3, g4, g5, g6, fun b hx => ?_⟩
  rcases hx with hx | rfl
  · exact g7 b hx
  · exact ⟨ht', fun e => by have := h1.lt; omega, fun e => by have := h2.lt; omega, fun e => by have := (h3.block _ e).2; omega, fun e => by have := (h4.block _ e).2; omega⟩
/-- A token is added. -/
theorem TkV.push (h : TkV X z out stk vo vs w) {t : Tok} {v' : Value} (hown : Own w' (fun _ => False) (z + 3) 28 v' (out ++ [t])) (hg : w.grownBy w' vo.ownBlock) (hat : v'.ownBlock = vo.ownBlock ∨ v'.ownBlock = some w.heap.size) :
    TkV X z (out ++ [t]) stk v' vs (w'.setCell ⟨z, 0, none⟩ v') ∧ Kept (fun b => ¬ X b) w (w'.setCell ⟨z, 0, none⟩ v') := by
  obtain ⟨h1, h2, h3, h4, h5, h6, h7⟩ := h
  have z1 : vo.ownBlock ≠ some z := fun e => by have := (h3.block _ e).1; omega
  have z2 : vo.ownBlock ≠ some (z + 2) := fun e => by have := (h3.block _ e).1; omega
  have g1 := h1.grown hg (fun e => z1 e.symm)
  have g2 := h2.grown hg (fun e => z2 e.symm)
  have gs : Own w' (fun _ => False) (z + 1) 3 vs stk := h4.plain plainInt (fun k hk => hg.block k (h4.block k hk).2 (fun e => h6 k e.symm hk))
  have nz : ∀ (c : Value) (b : Nat), b ≠ z → (w'.setCell ⟨z, 0, none⟩ c).heap[b]? = w'.heap[b]? := fun c b hb => Below.heap_setCell _ _ _ _ (by first | exact hb | exact Ne.symm hb)
  refine ⟨⟨g1.set_ 0 v', (show _ = _ from (nz v' (z + 2) (by omega)).trans g2), hown.plain plainTok (fun k hk => nz _ k (fun e => by have := (hown.block k hk).1; omega)), gs.plain plainInt (fun k hk => nz _ k (fun e => by have := (h4.block k hk).1; omega)), h5, fun k hk => ?_, fun b hx => ?_⟩, ?_⟩
  · rcases hat with q | q
    · exact h6 k (q ▸ hk)
    · rw [q] at hk; injection hk with hk; subst hk; exact fun e => by have := (h4.block _ e).2; omega
  · obtain ⟨x1, x2, x3, x4, x5⟩ := h7 b hx
    refine ⟨by have := hg.size; simp [World.setCell]; omega, x2, x3, ?_, x5⟩
    rcases hat with q | q
    · rw [q]; exact x4
    · rw [q]; intro e; injection e with e; omega
  · exact ((Kept.of_grown (X := fun b => ¬ X b) hg (fun k hk hx => (h7 k hx).2.2.2.1 hk))).setCell (p := ⟨z, 0, none⟩) (.inl (fun hx => (h7 z hx).2.1 rfl)) v'
/-- A column is added. -/
theorem TkV.pushS (h : TkV X z out stk vo vs w) {c : Int} {v' : Value} (hown : Own w' (fun _ => False) (z + 1) 3 v' (stk ++ [c])) (hg : w.grownBy w' vs.ownBlock) (hat : v'.ownBlock = vs.ownBlock ∨ v'.ownBlock = some w.heap.size) :
    TkV X z out (stk ++ [c]) vo v' (w'.setCell ⟨z + 2, 0, none⟩ v') ∧ Kept (fun b => ¬ X b) w (w'.setCell ⟨z + 2, 0, none⟩ v') := by
  obtain ⟨h1, h2, h3, h4, h5, h6, h7⟩ := h
  have z1 : vs.ownBlock ≠ some z := fun e => by have := (h4.block _ e).1; omega
  have z2 : vs.ownBlock ≠ some (z + 2) := fun e => h5 _ e rfl
  have g1 := h1.grown hg (fun e => z1 e.symm)
  have g2 := h2.grown hg (fun e => z2 e.symm)
  have go : Own w' (fun _ => False) (z + 3) 28 vo out := h3.plain plainTok (fun k hk => hg.block k (h3.block k hk).2 (fun e => h6 k hk e.symm))
  have nz : ∀ (c : Value) (b : Nat), b ≠ z + 2 → (w'.setCell ⟨z + 2, 0, none⟩ c).heap[b]? = w'.heap[b]? := fun c b hb => Below.heap_setCell _ _ _ _ (by first | exact hb | exact Ne.symm hb)
  have hsz : z + 2 < w.heap.size := h2.lt
  have hv' : ∀ k, v'.ownBlock = some k → k ≠ z + 2 := fun k hk => by
    rcases hat with q | q
    · exact h5 k (q ▸ hk)
    · rw [q] at hk; injection hk with hk; omega
  refine ⟨⟨(show _ = _ from (nz v' z (by omega)).trans g1), g2.set_ 0 v', go.plain plainTok (fun k hk => nz _ k (fun e => by have := (h3.block k hk).1; omega)), hown.plain plainInt (fun k hk => nz _ k (hv' k hk)), hv', fun k hk => ?_, fun b hx => ?_⟩, ?_⟩
  · rcases hat with q | q
    · rw [q]; exact h6 k hk
    · rw [q]; intro e; injection e with e; have := (h3.block k hk).2; omega
  · obtain ⟨x1, x2, x3, x4, x5⟩ := h7 b hx
    refine ⟨by have := hg.size; simp [World.setCell]; omega, x2, x3, x4, ?_⟩
    rcases hat with q | q
    · rw [q]; exact x5
    · rw [q]; intro e; injection e with e; omega
  · exact ((Kept.of_grown (X := fun b => ¬ X b) hg (fun k hk hx => (h7 k hx).2.2.2.2 hk))).setCell (p := ⟨z + 2, 0, none⟩) (.inl (fun hx => (h7 _ hx).2.2.1 rfl)) v'
/-- Columns are dropped. -/
theorem TkV.pop {g n c : Nat} (h : TkV X z out stk vo (.slice (some ⟨g, 0, none⟩) n c) w) {m : Nat} (hm : m ≤ stk.length) :
    TkV X z out (stk.take m) vo (.slice (some ⟨g, 0, none⟩) m c) (w.setCell ⟨z + 2, 0, none⟩ (.slice (some ⟨g, 0, none⟩) m c)) ∧ Kept (fun b => ¬ X b) w (w.setCell ⟨z + 2, 0, none⟩ (.slice (some ⟨g, 0, none⟩) m c)) := by
  obtain ⟨h1, h2, h3, h4, h5, h6, h7⟩ := h
  have nz : ∀ (c : Value) (b : Nat), b ≠ z + 2 → (w.setCell ⟨z + 2, 0, none⟩ c).heap[b]? = w.heap[b]? := fun c b hb => Below.heap_setCell _ _ _ _ (by first | exact hb | exact Ne.symm hb)
  refine ⟨⟨(show _ = _ from (nz _ z (by omega)).trans h1), h2.set_ 0 _, h3.plain plainTok (fun k hk => nz _ k (fun e => by have := (h3.block k hk).1; omega)), (h4.take hm).plain plainInt (fun k hk => nz _ k (h5 k hk)), h5, h6, fun b hx => ?_⟩, (Kept.refl _ w).setCell (p := ⟨z + 2, 0, none⟩) (.inl (fun hx => (h7 _ hx).2.2.1 rfl)) _⟩
  obtain ⟨x1, x2, x3, x4, x5⟩ := h7 b hx
  exact ⟨by simp [World.setCell]; omega, x2, x3, x4, x5⟩
end
end Go.Proofs.Ytabehgggahnopaa
