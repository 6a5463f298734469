/- Plain facts and definitions of this proof, of several texts joined: RuleB, Two, TwoReg, CameSym, RegStage, Nodes, TreeE, YieldP, TwoMany, MirP, TreeEOf, Take. -/
import Derived.Test.YtecofoilghdedaaQp1
import Derived.ArgAppend
/- Rules with the blocks of their right sides: a row of rules whose right sides lie apart, and a store into one of them. No program is named here. -/
namespace Go.Proofs.Ytecofoilghdedaa
open Go.RowKit
set_option linter.unusedVariables false

structure RuleB where
  rule : Rule
  blk : Nat
instance instDatRuleB : Dat RuleB where
  size := 2
  wraps := true
  rd w S r cs := ∃ v, cs = [.int .i64 r.rule.left, v] ∧ I64 r.rule.left ∧ Vl w (fun b => b = r.blk ∧ S b) r.rule.right v
  len h := by obtain ⟨v, rfl, _⟩ := h; rfl
  pos := by decide
  flat h := by simp at h
  one h := by
    obtain ⟨v, rfl, _, hv⟩ := h
    obtain ⟨A, c, rfl, _⟩ := hv.slice
    intro u hu; simp at hu; rcases hu with rfl | rfl <;> rfl
  keep hk hS h := by obtain ⟨v, h1, h2, h3⟩ := h; exact ⟨v, h1, h2, h3.keep (fun p hp => hk p hp.2) (fun b hb => ⟨hb.1, hS b hb.2⟩)⟩

section
variable {w w' : World} {S : Nat → Prop} {base : Nat} {e : TypeId} {v : Value} {xs : List RuleB}
theorem Own.rules (h : Own w S base e v xs) : Own w S base e v (xs.map RuleB.rule) := by
  obtain ⟨css, h1, h2, h3⟩ := h
  refine ⟨css, by rw [List.length_map]; exact h1, by rw [List.length_map]; exact h2, fun i x cs hi hc => ?_⟩
  rw [List.getElem?_map] at hi
  cases hx : xs[i]? with
  | none => rw [hx] at hi; cases hi
  | some y =>
    rw [hx] at hi
    injection hi with hi
    subst hi
    obtain ⟨u, h4, h5, h6⟩ := h3 i y cs hx hc
    exact ⟨u, h4, h5, h6.keep (fun _ _ _ => rfl) (fun b hb => hb.2)⟩
/-- The right sides lie in blocks of their own, from lo on. -/
structure Frs (w : World) (lo : Nat) (xs : List RuleB) : Prop where
  apart : ∀ (i k : Nat) (x y : RuleB), xs[i]? = some x → xs[k]? = some y → i ≠ k → x.blk ≠ y.blk
  cells : ∀ x ∈ xs, lo ≤ x.blk ∧ x.blk < w.heap.size ∧ (x.rule.right ≠ [] → ∃ t cur, Blk' w x.blk t cur)
theorem Frs.nil (w : World) (lo : Nat) : Frs w lo [] := ⟨fun i k x y h => by simp at h, fun x h => by simp at h⟩
theorem Frs.kept {X : Nat → Prop} {lo : Nat} (h : Frs w lo xs) (k : Kept X w w') (hx : ∀ x ∈ xs, x.rule.right ≠ [] → ¬ X x.blk) : Frs w' lo xs :=
  ⟨h.apart, fun x hm => by
    obtain ⟨h1, h2, h3⟩ := h.cells x hm
    refine ⟨h1, Nat.lt_of_lt_of_le h2 k.size, fun hne => ?_⟩
    obtain ⟨t, cur, hb⟩ := h3 hne
    exact ⟨t, cur, hb.kept k (hx x hm hne)⟩⟩
theorem Frs.below {lo : Nat} (h : Frs w lo xs) (k : Below w.heap.size w w') : Frs w' lo xs := h.kept (Kept.of_below (fun _ => False) k) (fun _ _ _ h => h)
theorem Frs.snoc {lo : Nat} {x : RuleB} (h : Frs w lo xs) (hl : lo ≤ x.blk) (hs : x.blk < w.heap.size) (hc : x.rule.right ≠ [] → ∃ t cur, Blk' w x.blk t cur) (hn : ∀ y ∈ xs, y.blk ≠ x.blk) : Frs w lo (xs ++ [x]) := by
  refine ⟨fun i k a b hi hk hne => ?_, fun y hy => ?_⟩
  · rcases Nat.lt_or_ge i xs.length with h1 | h1
    · rw [List.getElem?_append_left h1] at hi
      rcases Nat.lt_or_ge k xs.length with h2 | h2
      · rw [List.getElem?_append_left h2] at hk
        exact h.apart i k a b hi hk hne
      · rw [List.getElem?_append_right h2] at hk
        obtain ⟨h3, h4⟩ := List.getElem?_eq_some_iff.1 hk
        simp at h4
        subst h4
        exact hn a (List.mem_of_getElem? hi)
    · rw [List.getElem?_append_right h1] at hi
      obtain ⟨h3, h4⟩ := List.getElem?_eq_some_iff.1 hi
      simp at h3 h4
      subst h4
      rcases Nat.lt_or_ge k xs.length with h2 | h2
      · rw [List.getElem?_append_left h2] at hk
        exact fun e => hn b (List.mem_of_getElem? hk) e.symm
      · rw [List.getElem?_append_right h2] at hk
        obtain ⟨h5, h6⟩ := List.getElem?_eq_some_iff.1 hk
        simp at h5
        omega
  · rcases List.mem_append.1 hy with hy | hy
    · exact h.cells y hy
    · simp at hy
      subst hy
      exact ⟨hl, hs, hc⟩
theorem Own.ruleNe (h : Own w S base e v xs) {x : RuleB} (hx : x ∈ xs) (hne : x.rule.right ≠ []) : v.ownBlock ≠ some x.blk := by
  obtain ⟨i, hi, rfl⟩ := List.getElem_of_mem hx
  obtain ⟨g, c, cs, _, _, _, hrd, _⟩ := h.at_ (List.getElem?_eq_getElem hi)
  obtain ⟨u, _, _, hv⟩ := hrd
  obtain ⟨A, c', rfl, _, _, hE⟩ := hv.slice
  obtain ⟨b, o, _, ⟨hb, hT⟩, _⟩ := hE hne
  rw [← hb]
  exact hT.2.1
/-- A row's rule, for a load. -/
theorem Own.ruleB (h : Own w S base e v xs) {k : Nat} {x : RuleB} (hk : xs[k]? = some x) :
    ∃ g cap A c, v = .slice (some ⟨g, 0, none⟩) xs.length cap ∧ base ≤ g ∧ g < w.heap.size ∧ I64 x.rule.left ∧ x.rule.right.length ≤ c ∧ c ≤ 9223372036854775807 ∧ Els w (fun b => b = x.blk ∧ OwnT S base v w b) x.rule.right A ∧ w.cell? ⟨g, k * 2, none⟩ = some (.int .i64 x.rule.left) ∧ w.cell? ⟨g, k * 2 + 1, none⟩ = some (.slice A x.rule.right.length c) := by
  obtain ⟨g, cap, cs, hv, hg1, hg2, hrd, hat⟩ := h.at_ hk
  obtain ⟨u, rfl, hI, hvl⟩ := hrd
  obtain ⟨A, c, rfl, h1, h2, h3⟩ := hvl.slice
  exact ⟨g, cap, A, c, hv, hg1, hg2, hI, h1, h2, h3, hat.c0, hat.c1⟩
/-- A symbol is stored into the right side of one rule. -/
theorem Own.putB (h : Own w S base e v xs) {i j g cap o m c n : Nat} {x : RuleB} {t : TypeId} {cur : Array Value} (hi : xs[i]? = some x) (hap : ∀ k y, xs[k]? = some y → k ≠ i → y.blk ≠ x.blk)
    (hv : v = .slice (some ⟨g, 0, none⟩) n cap) (hc : w.cell? ⟨g, i * 2 + 1, none⟩ = some (.slice (some ⟨x.blk, o, none⟩) m c)) (hB : Blk' w x.blk t cur) (hj : j < x.rule.right.length) (s : Sym) (hs : I64 s.n) :
    Own ((w.setCell ⟨x.blk, o + j * 2, none⟩ (.bool s.term)).setCell ⟨x.blk, o + j * 2 + 1, none⟩ (.int .i64 s.n)) S base e v (xs.set i ⟨⟨x.rule.left, x.rule.right.set j s⟩, x.blk⟩) := by
  have hne : x.rule.right ≠ [] := fun e => by rw [e] at hj; simp at hj
  have hnb := h.ruleNe (List.mem_of_getElem? hi) hne
  have hB' := (hB.set_ (o + j * 2) (.bool s.term)).set_ (o + j * 2 + 1) (.int .i64 s.n)
  have hk : Kept (fun y => y = x.blk) w ((w.setCell ⟨x.blk, o + j * 2, none⟩ (.bool s.term)).setCell ⟨x.blk, o + j * 2 + 1, none⟩ (.int .i64 s.n)) := ((Kept.refl (fun y => y = x.blk) w).setCell (p := ⟨x.blk, o + j * 2, none⟩) (.inl rfl) _).setCell (p := ⟨x.blk, o + j * 2 + 1, none⟩) (.inl rfl) _
  obtain ⟨g2, cap2, cs2, hv2, _, _, _, _⟩ := h.at_ hi
  have h0 := h
  obtain ⟨css, h1, h2, h3⟩ := h
  generalize hw' : (w.setCell ⟨x.blk, o + j * 2, none⟩ (.bool s.term)).setCell ⟨x.blk, o + j * 2 + 1, none⟩ (.int .i64 s.n) = w' at *
  have hil : i < css.length := by have := (List.getElem?_eq_some_iff.1 hi).1; omega
  have hci : css[i]? = some css[i] := List.getElem?_eq_getElem hil
  have hcl : ∀ cs ∈ css, cs.length = 2 := by
    intro cs hcs
    obtain ⟨i, hi, rfl⟩ := List.getElem_of_mem hcs
    exact Dat.len (h3 i _ _ (List.getElem?_eq_getElem (by omega : i < xs.length)) (List.getElem?_eq_getElem hi))
  obtain ⟨u, hcs, hI, hvl⟩ := h3 i x _ hi hci
  obtain ⟨A, c', rfl, l1, l2, hE⟩ := hvl.slice
  have hcell : A = some ⟨x.blk, o, none⟩ := by
    subst hv
    have hf := flat_get css hcl i 1 _ _ hci (by rw [hcs]; rfl)
    rcases h1.2 with ⟨q, _⟩ | ⟨g3, cap3, cur3, q, _, q2, _, _, _, q3⟩
    · cases q
    · injection q with q _ _
      injection q with q
      injection q with q _ _
      subst q
      have h6 : cur3[i * 2 + 1]? = some (.slice A x.rule.right.length c') := by
        rw [← q3, List.getElem?_take] at hf
        split at hf
        · rw [← Array.getElem?_toList]; exact hf
        · cases hf
      have h7 : w.cell? ⟨g, i * 2 + 1, none⟩ = cur3[i * 2 + 1]? := cell_of_row w g (i * 2 + 1) cur3 e (0, 0) q2
      rw [h7, h6] at hc
      injection hc with hc
      injection hc with hc _ _
  subst hcell
  obtain ⟨b1, o1, hA, ⟨_, hT⟩, hx⟩ := hE hne
  injection hA with hA
  injection hA with e1 e2 _
  subst e1; subst e2
  have hTT : ∀ b, OwnT S base v w b → OwnT S base v w' b := fun b hb => ⟨hb.1, hb.2.1, Nat.lt_of_lt_of_le hb.2.2 hk.size⟩
  refine ⟨css, ?_, by rw [List.length_set]; exact h2, fun k y cs hk1 hc1 => ?_⟩
  · rw [List.length_set]
    refine ⟨h1.1, ?_⟩
    rcases h1.2 with q | ⟨g3, cap3, cur3, q1, q2, q3, q4⟩
    · exact .inl q
    · exact .inr ⟨g3, cap3, cur3, q1, q2, (hk.block g3 (Array.getElem?_eq_some_iff.1 q3).1 (fun e => hnb (by rw [q1, ← e]; rfl))).trans q3, q4⟩
  · rw [List.getElem?_set] at hk1
    split at hk1
    · rename_i ek
      subst ek
      split at hk1
      · injection hk1 with hk1
        subst hk1
        rw [hci] at hc1
        injection hc1 with hc1
        subst hc1
        refine ⟨_, hcs, hI, Vl.of_slice (by dsimp only; rw [List.length_set]) (by dsimp only; rw [List.length_set]; exact l1) l2 (fun _ => ⟨x.blk, o, rfl, ⟨rfl, hTT _ hT⟩, fun m z hz => ?_⟩)⟩
        dsimp only at hz
        rw [List.getElem?_set] at hz
        split at hz
        · rename_i em
          subst em
          injection hz with hz
          subst hz
          obtain ⟨ds, ⟨rfl, hd⟩, hat⟩ := hx j _ (List.getElem?_eq_getElem hj)
          have c0 : w.cell? ⟨x.blk, o + j * 2, none⟩ = _ := hat.c0
          have c1 : w.cell? ⟨x.blk, o + j * 2 + 1, none⟩ = _ := hat.c1
          rw [hB.cell] at c0 c1
          have d0 := (Array.getElem?_eq_some_iff.1 c0).1
          have d1 := (Array.getElem?_eq_some_iff.1 c1).1
          refine ⟨_, ⟨rfl, hs⟩, fun q u hu => ?_⟩
          rw [hB'.cell]
          show _[o + j * 2 + q]? = _
          match q, hu with
          | 0, hu => simp at hu; subst hu; rw [Array.getElem?_setIfInBounds_ne (by omega), Nat.add_zero, Array.getElem?_setIfInBounds_self_of_lt d0]
          | 1, hu => simp at hu; subst hu; rw [Array.getElem?_setIfInBounds_self_of_lt (by simpa using d1)]
        · rename_i em
          obtain ⟨ds, ⟨rfl, hd⟩, hat⟩ := hx m _ hz
          refine ⟨_, ⟨rfl, hd⟩, fun q u hu => ?_⟩
          have h8 := hat q u hu
          rw [hB.cell] at h8
          have hq : q < 2 := (List.getElem?_eq_some_iff.1 hu).1
          rw [hB'.cell]
          change cur[o + m * 2 + q]? = _ at h8
          show _[o + m * 2 + q]? = _
          rw [Array.getElem?_setIfInBounds_ne (by omega), Array.getElem?_setIfInBounds_ne (by omega)]
          exact h8
      · cases hk1
    · rename_i ek
      obtain ⟨u, h4, h5, h6⟩ := h3 k y cs hk1 hc1
      have hyb := hap k y hk1 (fun e => ek e.symm)
      exact ⟨u, h4, h5, h6.keep (fun p hp hlt => hk.cell hlt (fun e => hyb (hp.1.symm.trans e))) (fun b hb => ⟨hb.1, hTT b hb.2⟩)⟩
theorem Frs.put {lo : Nat} (h : Frs w lo xs) {i : Nat} {x y : RuleB} (hi : xs[i]? = some x) (hy : y.blk = x.blk) (k : Kept (fun b => b = x.blk) w w') (hB : ∃ t cur, Blk' w' x.blk t cur) : Frs w' lo (xs.set i y) := by
  have hb : ∀ (k : Nat) z, (xs.set i y)[k]? = some z → ∃ z', xs[k]? = some z' ∧ z'.blk = z.blk ∧ (k ≠ i → z' = z) := by
    intro k z hz
    rw [List.getElem?_set] at hz
    split at hz
    · rename_i e
      subst e
      split at hz
      · injection hz with hz
        subst hz
        exact ⟨x, hi, hy.symm, fun e => absurd rfl e⟩
      · cases hz
    · exact ⟨z, hz, rfl, fun _ => rfl⟩
  refine ⟨fun a c p q h1 h2 hne => ?_, fun z hz => ?_⟩
  · obtain ⟨p', h3, h4, _⟩ := hb a p h1
    obtain ⟨q', h5, h6, _⟩ := hb c q h2
    rw [← h4, ← h6]
    exact h.apart a c p' q' h3 h5 hne
  · obtain ⟨n, hn, rfl⟩ := List.getElem_of_mem hz
    obtain ⟨z', h3, h4, h5⟩ := hb n _ (List.getElem?_eq_getElem hn)
    obtain ⟨h6, h7, h8⟩ := h.cells z' (List.mem_of_getElem? h3)
    rw [← h4]
    refine ⟨h6, Nat.lt_of_lt_of_le h7 k.size, fun hne => ?_⟩
    by_cases e : n = i
    · subst e
      rw [hi] at h3
      injection h3 with h3
      rw [← h3]
      exact hB
    · have e2 := h5 e
      have h9 := h.apart n i z' x h3 hi e
      rw [← e2] at hne
      obtain ⟨t, cur, hc⟩ := h8 hne
      exact ⟨t, cur, hc.kept k h9⟩
theorem Frs.lo {lo lo' : Nat} (h : Frs w lo xs) (hl : lo' ≤ lo) : Frs w lo' xs := ⟨h.apart, fun x hx => ⟨Nat.le_trans hl (h.cells x hx).1, (h.cells x hx).2⟩⟩
end
section
variable {w : World} {S : Nat → Prop} {base : Nat} {e : TypeId} {v : Value}
theorem Own.blk {α : Type} [Dat α] {xs : List α} (h : Own w S base e v xs) {k : Nat} (hk : v.ownBlock = some k) : ∃ t cur, Blk' w k t cur := by
  obtain ⟨css, h1, _⟩ := h
  rcases h1.2 with ⟨rfl, _⟩ | ⟨g, cap, cur, rfl, _, hh, _⟩
  · cases hk
  · injection hk with hk
    subst hk
    exact ⟨_, _, hh⟩
theorem Own.symEls {xs : List Sym} {A : Option Addr} {n c : Nat} (h : Own w S base e (.slice A n c) xs) : Els w (fun b => (Value.slice A n c).ownBlock = some b) xs A := by
  intro hne
  obtain ⟨b, o, rfl, _, hx⟩ := h.vl.els.2.2.2 hne
  exact ⟨b, o, rfl, rfl, fun i x hi => by
    obtain ⟨cs, h1, h2⟩ := hx i x hi
    exact ⟨cs, h1, h2⟩⟩
/-- The block of a symbols' row, or a number of its own where there is none. -/
theorem Own.kb {xs : List Sym} {A : Option Addr} {c lo hi : Nat} (h : Own w S base e (.slice A xs.length c) xs) (h1 : lo ≤ base) (h2 : lo < hi) (h3 : w.heap.size ≤ hi) : ∃ kb, lo ≤ kb ∧ kb < hi ∧ (xs ≠ [] → (Value.slice A xs.length c).ownBlock = some kb) ∧ Els w (fun b => b = kb) xs A := by
  by_cases hne : xs = []
  · exact ⟨lo, Nat.le_refl _, h2, fun h => absurd hne h, fun h => absurd hne h⟩
  · obtain ⟨b, o, rfl, hb, _⟩ := h.vl.els.2.2.2 hne
    have h4 := h.block b rfl
    exact ⟨b, Nat.le_trans h1 h4.1, Nat.lt_of_lt_of_le h4.2 h3, fun _ => rfl, h.symEls.keep (fun _ _ _ => rfl) (fun k hk => by injection hk with hk; exact hk.symm)⟩
end
end Go.Proofs.Ytecofoilghdedaa

/- Rows of the call's own whose elements lead to a set of blocks that is given; two such rows side by side. No program is named here. -/
namespace Go.Proofs.Ytecofoilghdedaa
open Go.RowKit
set_option linter.unusedVariables false

/-- v is a row of the call's own; its elements lead to T, which the row's block is not of. -/
def OwnX {α : Type} [Dat α] (w : World) (T : Nat → Prop) (base : Nat) (e : TypeId) (v : Value) (xs : List α) : Prop :=
  ∃ css : List (List Value), w.ownsRow base e (Dat.size α) v xs.length css.flatten ∧ css.length = xs.length ∧
    (∀ (i : Nat) (x : α) (cs : List Value), xs[i]? = some x → css[i]? = some cs → Dat.rd w T x cs) ∧ (∀ k, v.ownBlock = some k → ¬ T k) ∧ (∀ b, T b → b < w.heap.size)

section
variable {w w' : World} {S T T' : Nat → Prop} {base : Nat} {e : TypeId} {v : Value} {α : Type} [Dat α] {xs : List α}
theorem OwnX.nil (w : World) (T : Nat → Prop) (base : Nat) (e : TypeId) (hT : ∀ b, T b → b < w.heap.size) : OwnX w T base e (.slice none 0 0) ([] : List α) :=
  ⟨[], World.ownsRow_nil w base e _, rfl, fun i x cs h => by simp at h, fun k h => by simp [Value.ownBlock] at h, hT⟩
theorem OwnX.block (h : OwnX w T base e v xs) : ∀ k, v.ownBlock = some k → base ≤ k ∧ k < w.heap.size := by
  obtain ⟨css, h1, _⟩ := h
  exact h1.lt
theorem OwnX.mono (h : OwnX w T base e v xs) (hs : ∀ b, T b → T' b) (hv : ∀ k, v.ownBlock = some k → ¬ T' k) (hT : ∀ b, T' b → b < w.heap.size) : OwnX w T' base e v xs := by
  obtain ⟨css, h1, h2, h3, h4, h5⟩ := h
  exact ⟨css, h1, h2, fun i x cs hi hc => Dat.keep (fun _ _ _ => rfl) hs (h3 i x cs hi hc), hv, hT⟩
theorem OwnX.grown {row : Option Nat} (h : OwnX w T base e v xs) (hg : w.grownBy w' row) (hne : ∀ k, row = some k → v.ownBlock ≠ some k ∧ ¬ T k) : OwnX w' T base e v xs := by
  obtain ⟨css, h1, h2, h3, h4, h5⟩ := h
  refine ⟨css, h1.kept hg ?_, h2, fun i x cs hi hc => Dat.keep (fun p hp hlt => ?_) (fun _ hb => hb) (h3 i x cs hi hc), h4, fun b hb => Nat.lt_of_lt_of_le (h5 b hb) hg.size⟩
  · cases hv : v.ownBlock with
    | none => exact .inl rfl
    | some k => exact .inr (fun e => (hne k e.symm).1 hv)
  · exact World.cell?_of_block (hg.block p.block hlt (fun e => (hne _ e.symm).2 hp))
theorem OwnX.below {B : Nat} (h : OwnX w T base e v xs) (hb : Below B w w') (hB : w.heap.size ≤ B) : OwnX w' T base e v xs :=
  h.grown (row := none) ⟨hb.os, hb.tape, hb.output, hb.size, fun k hk _ => hb.block k (by omega)⟩ (fun k h => by cases h)
theorem OwnX.own (h : OwnX w T base e v xs) (hT : ∀ b, T b → S b ∨ base ≤ b) : Own w S base e v xs := by
  obtain ⟨css, h1, h2, h3, h4, h5⟩ := h
  exact ⟨css, h1, h2, fun i x cs hi hc => Dat.keep (fun _ _ _ => rfl) (fun b hb => ⟨hT b hb, fun e => h4 b e hb, h5 b hb⟩) (h3 i x cs hi hc)⟩
theorem OwnX.form (h : OwnX w T base e v xs) : ∃ A c, v = .slice A xs.length c ∧ xs.length ≤ c ∧ c ≤ 9223372036854775807 ∧ (xs = [] ∨ ∃ g, A = some ⟨g, 0, none⟩ ∧ base ≤ g ∧ g < w.heap.size) := by
  obtain ⟨css, h1, h2, _⟩ := h
  rcases h1.2 with ⟨rfl, hn⟩ | ⟨g, cap, cur, rfl, hg, hh, hnc, hcm, _⟩
  · refine ⟨none, 0, by rw [hn], by omega, by omega, .inl (List.eq_nil_of_length_eq_zero hn)⟩
  · exact ⟨_, cap, rfl, hnc, by simpa [maxLen] using hcm, .inr ⟨g, rfl, hg, (Array.getElem?_eq_some_iff.1 hh).1⟩⟩
end

section
variable {P : Program} {w : World} {T : Nat → Prop} {base : Nat} {α : Type} [Dat α]
theorem ownX_many {e : TypeId} {v v' : Value} {w' : World} {xs ys : List α} {css dss : List (List Value)}
    (h2 : css.length = xs.length) (h3 : ∀ (i : Nat) (x : α) (cs : List Value), xs[i]? = some x → css[i]? = some cs → Dat.rd w T x cs) (h4 : ∀ k, v.ownBlock = some k → ¬ T k) (h5 : ∀ b, T b → b < w.heap.size)
    (h2' : dss.length = ys.length) (h3' : ∀ (i : Nat) (x : α) (cs : List Value), ys[i]? = some x → dss[i]? = some cs → Dat.rd w T x cs)
    (hown : w'.ownsRow base e (Dat.size α) v' (xs.length + ys.length) (css.flatten ++ dss.flatten))
    (hg : w.grownBy w' v.ownBlock) (hat : v'.ownBlock = v.ownBlock ∨ v'.ownBlock = some w.heap.size) : OwnX w' T base e v' (xs ++ ys) := by
  have hkeep : ∀ {y : α} {ds : List Value}, Dat.rd w T y ds → Dat.rd w' T y ds := fun hy =>
    Dat.keep (fun p hp hlt => World.cell?_of_block (hg.block p.block hlt (fun e => h4 _ e.symm hp))) (fun b hb => hb) hy
  refine ⟨css ++ dss, by simpa using hown, by simp [h2, h2'], fun i y ds hi hd => ?_, fun k hk hTk => ?_, fun b hb => Nat.lt_of_lt_of_le (h5 b hb) hg.size⟩
  · rcases Nat.lt_or_ge i xs.length with hlt | hge
    · rw [List.getElem?_append_left hlt] at hi
      rw [List.getElem?_append_left (by omega)] at hd
      exact hkeep (h3 i y ds hi hd)
    · rw [List.getElem?_append_right hge] at hi
      rw [List.getElem?_append_right (by omega), h2] at hd
      exact hkeep (h3' _ y ds hi hd)
  · rcases hat with e | e
    · exact h4 k (e ▸ hk) hTk
    · rw [hk] at e; injection e with e; have := h5 k hTk; omega

/-- append of one element that lies at the head of a block of its own. -/
theorem run_ownX1 {t ty e : TypeId} {bytes : Nat} (hT : ElemT P α t e bytes) {v : Value} {xs : List α} {x : α} {cs : List Value} {g c : Nat} (hown : OwnX w T base e v xs)
    (hat : At w g 0 cs) (hrd : Dat.rd w T x cs) (hlen : (xs.length + 1) * bytes ≤ 140737488355328) (hmax : xs.length + 1 ≤ 9223372036854775807) (hbase : base ≤ w.heap.size) :
    ∃ v' w', (Builtin.append_ #[t, t] ty #[v, .slice (some ⟨g, 0, none⟩) 1 c]).run P w = .ok v' w' ∧ OwnX w' T base e v' (xs ++ [x]) ∧ w.grownBy w' v.ownBlock ∧ (v'.ownBlock = v.ownBlock ∨ v'.ownBlock = some w.heap.size) := by
  obtain ⟨i, z, ht, hi, hz, hsize, hby, hzs⟩ := hT
  obtain ⟨css, h1, h2, h3, h4, h5⟩ := hown
  have hcl := Dat.len hrd
  obtain ⟨v', w', hr, ho, hg, _, h6⟩ := run_append_own_at (P := P) w base t ty e i z (Dat.size α) bytes ht hi hz hsize hby hzs Dat.pos v xs.length css.flatten h1 ⟨g, 0, none⟩ 1 c cs (by omega)
    (by intro j u hu; have h := hat j u hu; have hadd : (⟨g, 0, none⟩ : Addr).add j = ⟨g, 0 + j, none⟩ := by unfold Addr.add; split <;> simp_all
        rw [hadd]; exact h) (Dat.one hrd) (by simpa [maxLen] using hmax) hlen hbase
  exact ⟨v', w', hr, ownX_many (ys := [x]) (dss := [cs]) h2 h3 h4 h5 rfl (rd_one hrd) (by simpa using ho) hg h6, hg, h6⟩
end

theorem At.alloc {w : World} {b o : Nat} {cs : List Value} (h : At w b o cs) (hl : 0 < cs.length) (ob : Obj) : At (w.alloc ob) b o cs :=
  h.keep (fun p hp => ((Below.refl w.heap.size w).alloc (Nat.le_refl _) ob).cell (hp ▸ h.lt hl))
theorem At.grown {w w' : World} {b o : Nat} {cs : List Value} {row : Option Nat} (h : At w b o cs) (hl : 0 < cs.length) (hg : w.grownBy w' row) (hne : some b ≠ row) : At w' b o cs :=
  h.keep (fun p hp => World.cell?_of_block (hg.block p.block (hp ▸ h.lt hl) (hp ▸ hne)))
theorem At.drew {w : World} {b o : Nat} {cs : List Value} (h : At w b o cs) : At w.drew b o cs := h
theorem At.new1 (w : World) (cs : List Value) (t : TypeId) (ob : Obj) : At ((w.alloc ob).alloc (.cells cs.toArray t)) (w.heap.size + 1) 0 cs := by
  have h := At.new (w.alloc ob) cs t
  rwa [show (w.alloc ob).heap.size = w.heap.size + 1 from by simp] at h
theorem Els.grown {α : Type} [Dat α] {w w' : World} {S : Nat → Prop} {xs : List α} {A : Option Addr} {row : Option Nat} (h : Els w S xs A) (hg : w.grownBy w' row) (hne : ∀ k, row = some k → ¬ S k) : Els w' S xs A :=
  h.keep (fun p hp hlt => World.cell?_of_block (hg.block p.block hlt (fun e => hne _ e.symm hp))) (fun _ hb => hb)

/-! ### Two rows side by side -/
def T2 (S : Nat → Prop) (B : Nat) (v1 v2 : Value) (w : World) (b : Nat) : Prop := (S b ∨ B ≤ b) ∧ v1.ownBlock ≠ some b ∧ v2.ownBlock ≠ some b ∧ b < w.heap.size
def Two {α β : Type} [Dat α] [Dat β] (w : World) (S : Nat → Prop) (B : Nat) (e1 e2 : TypeId) (v1 v2 : Value) (xs : List α) (ys : List β) : Prop :=
  OwnX w (T2 S B v1 v2 w) B e1 v1 xs ∧ OwnX w (T2 S B v1 v2 w) B e2 v2 ys ∧ ∀ k, v1.ownBlock = some k → v2.ownBlock ≠ some k
section
variable {w w' : World} {S : Nat → Prop} {B : Nat} {e1 e2 : TypeId} {v1 v2 : Value} {α β : Type} [Dat α] [Dat β] {xs : List α} {ys : List β}
theorem T2.swap {b : Nat} (h : T2 S B v1 v2 w b) : T2 S B v2 v1 w b := ⟨h.1, h.2.2.1, h.2.1, h.2.2.2⟩
theorem T2.below {b : Nat} (h : T2 S B v1 v2 w b) (hs : w.heap.size ≤ w'.heap.size) : T2 S B v1 v2 w' b := ⟨h.1, h.2.1, h.2.2.1, Nat.lt_of_lt_of_le h.2.2.2 hs⟩
theorem Two.swap (h : Two w S B e1 e2 v1 v2 xs ys) : Two w S B e2 e1 v2 v1 ys xs :=
  ⟨h.2.1.mono (fun _ => T2.swap) (fun k hk hb => hb.2.1 hk) (fun _ hb => hb.2.2.2), h.1.mono (fun _ => T2.swap) (fun k hk hb => hb.2.2.1 hk) (fun _ hb => hb.2.2.2), fun k h1 h2 => h.2.2 k h2 h1⟩
theorem Two.nil (w : World) (S : Nat → Prop) (B : Nat) (e1 e2 : TypeId) : Two w S B e1 e2 (.slice none 0 0) (.slice none 0 0) ([] : List α) ([] : List β) :=
  ⟨OwnX.nil _ _ _ _ (fun _ hb => hb.2.2.2), OwnX.nil _ _ _ _ (fun _ hb => hb.2.2.2), fun k h => by simp [Value.ownBlock] at h⟩
theorem Two.grown {row : Option Nat} (h : Two w S B e1 e2 v1 v2 xs ys) (hg : w.grownBy w' row) (hne : ∀ k, row = some k → ¬ (S k ∨ B ≤ k)) : Two w' S B e1 e2 v1 v2 xs ys := by
  have hr1 : ∀ k, row = some k → v1.ownBlock ≠ some k := fun k hk e => hne k hk (.inr (h.1.block k e).1)
  have hr2 : ∀ k, row = some k → v2.ownBlock ≠ some k := fun k hk e => hne k hk (.inr (h.2.1.block k e).1)
  exact ⟨(h.1.grown hg fun k hk => ⟨hr1 k hk, fun hb => hne k hk hb.1⟩).mono (fun _ hb => hb.below hg.size) (fun k hk hb => hb.2.1 hk) (fun _ hb => hb.2.2.2),
    (h.2.1.grown hg fun k hk => ⟨hr2 k hk, fun hb => hne k hk hb.1⟩).mono (fun _ hb => hb.below hg.size) (fun k hk hb => hb.2.2.1 hk) (fun _ hb => hb.2.2.2), h.2.2⟩
theorem Two.below {C : Nat} (h : Two w S B e1 e2 v1 v2 xs ys) (hb : Below C w w') (hC : w.heap.size ≤ C) : Two w' S B e1 e2 v1 v2 xs ys :=
  h.grown (row := none) ⟨hb.os, hb.tape, hb.output, hb.size, fun k hk _ => hb.block k (by omega)⟩ (fun k h => by cases h)
theorem Two.alloc (h : Two w S B e1 e2 v1 v2 xs ys) (o : Obj) : Two (w.alloc o) S B e1 e2 v1 v2 xs ys := h.below ((Below.refl w.heap.size w).alloc (Nat.le_refl _) o) (Nat.le_refl _)
theorem Two.drew (h : Two w S B e1 e2 v1 v2 xs ys) : Two w.drew S B e1 e2 v1 v2 xs ys := h.below ((Below.refl w.heap.size w).drew) (Nat.le_refl _)
theorem Two.drewN (h : Two w S B e1 e2 v1 v2 xs ys) (n : Nat) : Two (w.drewN n) S B e1 e2 v1 v2 xs ys := h.below (bdrewN (Below.refl w.heap.size w)) (Nat.le_refl _)
theorem Two.set_ (h : Two w S B e1 e2 v1 v2 xs ys) {p : Addr} (hp : ¬ (S p.block ∨ B ≤ p.block)) (u : Value) : Two (w.setCell p u) S B e1 e2 v1 v2 xs ys :=
  h.grown (row := some p.block) ⟨rfl, rfl, rfl, by simp [World.setCell], fun k _ hk => Below.heap_setCell _ _ _ _ (fun e => hk (by rw [e]))⟩ (fun k hk => by cases hk; exact hp)
/-- What an append to the first row leaves. -/
theorem Two.pushed {v1' : Value} {xs' : List α} (h : Two w S B e1 e2 v1 v2 xs ys) (h1 : OwnX w' (T2 S B v1 v2 w) B e1 v1' xs') (hg : w.grownBy w' v1.ownBlock) (hat : v1'.ownBlock = v1.ownBlock ∨ v1'.ownBlock = some w.heap.size) : Two w' S B e1 e2 v1' v2 xs' ys := by
  have h2 := h.2.1.grown hg fun k hk => ⟨fun e => h.2.2 k hk e, fun hb => hb.2.1 hk⟩
  have hd : ∀ k, v1'.ownBlock = some k → v2.ownBlock ≠ some k := by
    intro k hk e
    rcases hat with e' | e'
    · exact h.2.2 k (e' ▸ hk) e
    · rw [hk] at e'; injection e' with e'; have := (h.2.1.block k e).2; omega
  have hsub : ∀ b, T2 S B v1 v2 w b → T2 S B v1' v2 w' b := fun b hb => ⟨hb.1, (by
    rcases hat with e' | e'
    · rw [e']; exact hb.2.1
    · rw [e']; intro e; injection e with e; have := hb.2.2.2; omega), hb.2.2.1, Nat.lt_of_lt_of_le hb.2.2.2 hg.size⟩
  exact ⟨h1.mono hsub (fun k hk hb => hb.2.1 hk) (fun _ hb => hb.2.2.2), h2.mono hsub (fun k hk hb => hb.2.2.1 hk) (fun _ hb => hb.2.2.2), hd⟩
/-- Both rows, for a reader. -/
theorem Two.vl1 (h : Two w S B e1 e2 v1 v2 xs ys) : Vl w (fun b => (S b ∨ B ≤ b) ∧ b < w.heap.size) xs v1 := (h.1.own (S := S) (fun _ hb => hb.1)).vl
theorem Two.vl2 (h : Two w S B e1 e2 v1 v2 xs ys) : Vl w (fun b => (S b ∨ B ≤ b) ∧ b < w.heap.size) ys v2 := (h.2.1.own (S := S) (fun _ hb => hb.1)).vl
end

section
variable {P : Program} (w : World) {S : Nat → Prop} {B : Nat} {α β : Type} [Dat α] [Dat β]
theorem wp_two1 {o : Oper} {a : Act} {K : Act → World → Prop} {Q : Exit → Act → World → Prop} (s xo : Operand) {t e1 e2 : TypeId} {bytes : Nat} (hT : ElemT P α t e1 bytes)
    (ho : o.op = .call { callee := .builtin .append, args := #[s, xo], argTypes := #[t, t] })
    {v1 v2 : Value} {xs : List α} {ys : List β} (hs : a.eval s = v1) (hown : Two w S B e1 e2 v1 v2 xs ys) (x : α) (cs : List Value) {g c : Nat} (hx : a.eval xo = .slice (some ⟨g, 0, none⟩) 1 c)
    (hat : At w g 0 cs) (hrd : Dat.rd w (T2 S B v1 v2 w) x cs) (hlen : (xs.length + 1) * bytes ≤ 140737488355328) (hmax : xs.length + 1 ≤ 9223372036854775807) (hbase : B ≤ w.heap.size)
    (h : ∀ v' w', Two w' S B e1 e2 v' v2 (xs ++ [x]) ys → w.grownBy w' v1.ownBlock → (v'.ownBlock = v1.ownBlock ∨ v'.ownBlock = some w.heap.size) → K (a.put o.dst v') w') : o.wp P a w K Q := by
  obtain ⟨v', w', hrun, h2, h3, h4⟩ := run_ownX1 (ty := o.type) (c := c) hT hown.1 hat hrd hlen hmax hbase
  unfold Oper.wp execOp
  simp only [ho, resolve, invoke, builtin, Sem.run_bind, Sem.run_pure, Result.andThen_ok, List.map_toArray, List.map_cons, List.map_nil, hs, hx, hrun]
  exact h v' w' (hown.pushed h2 h3 h4) h3 h4
theorem wpList_two1 {ops : Array Oper} {rest : List Oper} {o : Oper} {a : Act} {Q : Exit → Act → World → Prop} (hgd : o.guard = none) (s xo : Operand) {t e1 e2 : TypeId} {bytes : Nat} (hT : ElemT P α t e1 bytes)
    (ho : o.op = .call { callee := .builtin .append, args := #[s, xo], argTypes := #[t, t] })
    {v1 v2 : Value} {xs : List α} {ys : List β} (hs : a.eval s = v1) (hown : Two w S B e1 e2 v1 v2 xs ys) (x : α) (cs : List Value) {g c : Nat} (hx : a.eval xo = .slice (some ⟨g, 0, none⟩) 1 c)
    (hat : At w g 0 cs) (hrd : Dat.rd w (T2 S B v1 v2 w) x cs) (hlen : (xs.length + 1) * bytes ≤ 140737488355328) (hmax : xs.length + 1 ≤ 9223372036854775807) (hbase : B ≤ w.heap.size)
    (h : ∀ v' w', Two w' S B e1 e2 v' v2 (xs ++ [x]) ys → w.grownBy w' v1.ownBlock → (v'.ownBlock = v1.ownBlock ∨ v'.ownBlock = some w.heap.size) → wpList P ops Q rest (a.put o.dst v') w') : wpList P ops Q (o :: rest) a w :=
  wpList_plain hgd fun _ hK => wp_two1 w s xo hT ho hs hown x cs hx hat hrd hlen hmax hbase fun v' w' h2 h3 h4 => hK _ _ (h v' w' h2 h3 h4)
theorem step_two1 {ops : Array Oper} {o : Oper} {a : Act} {K : Act → World → Prop} {Q : Exit → Act → World → Prop} {E : Prop} (hgd : o.guard = none) (s xo : Operand) {t e1 e2 : TypeId} {bytes : Nat} (hT : ElemT P α t e1 bytes)
    (ho : o.op = .call { callee := .builtin .append, args := #[s, xo], argTypes := #[t, t] })
    {v1 v2 : Value} {xs : List α} {ys : List β} (hs : a.eval s = v1) (hown : Two w S B e1 e2 v1 v2 xs ys) (x : α) (cs : List Value) {g c : Nat} (hx : a.eval xo = .slice (some ⟨g, 0, none⟩) 1 c)
    (hat : At w g 0 cs) (hrd : Dat.rd w (T2 S B v1 v2 w) x cs) (hlen : (xs.length + 1) * bytes ≤ 140737488355328) (hmax : xs.length + 1 ≤ 9223372036854775807) (hbase : B ≤ w.heap.size)
    (h : ∀ v' w', Two w' S B e1 e2 v' v2 (xs ++ [x]) ys → w.grownBy w' v1.ownBlock → (v'.ownBlock = v1.ownBlock ∨ v'.ownBlock = some w.heap.size) → K (a.put o.dst v') w') :
    if Region.wanted o (yielded ops a.tmps) = true then Oper.wp P o a w K Q else E := by
  have hw : Region.wanted o (yielded ops a.tmps) = true := by simp [Region.wanted, hgd]
  rw [if_pos hw]
  exact wp_two1 w s xo hT ho hs hown x cs hx hat hrd hlen hmax hbase h
end
end Go.Proofs.Ytecofoilghdedaa

/- Two rows side by side within one region that draws its order: the boxes of the elements, the appends, in any order. No program is named here. -/
namespace Go.Proofs.Ytecofoilghdedaa
open Go.RowKit
set_option linter.unusedVariables false

/-- The state within the region: w0 is the world at its start, whose blocks from zb to ze stay; bx the boxes made so far. -/
structure TwS {α β : Type} [Dat α] [Dat β] (B zb ze : Nat) (e1 e2 : TypeId) (w0 w : World) (v1 v2 : Value) (xs : List α) (ys : List β) (bx : List (Nat × List Value)) : Prop where
  two : Two w (fun _ => False) B e1 e2 v1 v2 xs ys
  r1 : ∀ k, v1.ownBlock = some k → k < zb ∨ ze ≤ k
  r2 : ∀ k, v2.ownBlock = some k → k < zb ∨ ze ≤ k
  hB : B ≤ zb ∧ zb ≤ ze ∧ ze ≤ w.heap.size
  bel : Below B w0 w
  mid : ∀ p : Addr, zb ≤ p.block → p.block < ze → w.cell? p = w0.cell? p
  box : ∀ p ∈ bx, 0 < p.2.length ∧ At w p.1 0 p.2 ∧ v1.ownBlock ≠ some p.1 ∧ v2.ownBlock ≠ some p.1
section
variable {α β : Type} [Dat α] [Dat β] {B zb ze : Nat} {e1 e2 : TypeId} {w0 w : World} {v1 v2 : Value} {xs : List α} {ys : List β} {bx : List (Nat × List Value)}
theorem TwS.start (h : Two w (fun _ => False) B e1 e2 v1 v2 xs ys) (h1 : ∀ k, v1.ownBlock = some k → k < zb) (h2 : ∀ k, v2.ownBlock = some k → k < zb) (hB : B ≤ zb) (hz : zb ≤ ze) (hz' : ze ≤ w.heap.size) : TwS B zb ze e1 e2 w w v1 v2 xs ys [] :=
  ⟨h, fun k hk => .inl (h1 k hk), fun k hk => .inl (h2 k hk), ⟨hB, hz, hz'⟩, Below.refl _ _, fun _ _ _ => rfl, fun p hp => by simp at hp⟩
theorem TwS.drew (h : TwS B zb ze e1 e2 w0 w v1 v2 xs ys bx) : TwS B zb ze e1 e2 w0 w.drew v1 v2 xs ys bx :=
  ⟨h.two.drew, h.r1, h.r2, h.hB, h.bel.drew, h.mid, h.box⟩
theorem TwS.swap (h : TwS B zb ze e1 e2 w0 w v1 v2 xs ys bx) : TwS B zb ze e2 e1 w0 w v2 v1 ys xs bx :=
  ⟨h.two.swap, h.r2, h.r1, h.hB, h.bel, h.mid, fun p hp => ⟨(h.box p hp).1, (h.box p hp).2.1, (h.box p hp).2.2.2, (h.box p hp).2.2.1⟩⟩
theorem TwS.below (h : TwS B zb ze e1 e2 w0 w v1 v2 xs ys bx) {w' : World} (hb : Below w.heap.size w w') : TwS B zb ze e1 e2 w0 w' v1 v2 xs ys bx := by
  have hs := hb.size
  have h4 := h.hB
  refine ⟨h.two.below hb (Nat.le_refl _), h.r1, h.r2, ⟨h4.1, h4.2.1, by omega⟩, h.bel.trans (hb.mono (by omega)), fun p hp hp' => (hb.cell (by omega)).trans (h.mid p hp hp'), fun p hp => ?_⟩
  obtain ⟨q1, q2, q3⟩ := h.box p hp
  exact ⟨q1, q2.keep (fun a ha => hb.cell (ha ▸ q2.lt q1)), q3⟩
theorem TwS.alloc (h : TwS B zb ze e1 e2 w0 w v1 v2 xs ys bx) (o : Obj) : TwS B zb ze e1 e2 w0 (w.alloc o) v1 v2 xs ys bx := h.below ((Below.refl _ _).alloc (Nat.le_refl _) o)
/-- A box more. -/
theorem TwS.boxed (h : TwS B zb ze e1 e2 w0 w v1 v2 xs ys bx) (cs : List Value) (t : TypeId) (hl : 0 < cs.length) : TwS B zb ze e1 e2 w0 (w.alloc (.cells cs.toArray t)) v1 v2 xs ys ((w.heap.size, cs) :: bx) := by
  have h' := h.alloc (.cells cs.toArray t)
  refine ⟨h'.two, h'.r1, h'.r2, h'.hB, h'.bel, h'.mid, fun p hp => ?_⟩
  rcases List.mem_cons.1 hp with rfl | hp
  · exact ⟨hl, At.new w cs t, fun e => by have := (h.two.1.block _ e).2; dsimp only at this; omega, fun e => by have := (h.two.2.1.block _ e).2; dsimp only at this; omega⟩
  · exact h'.box p hp
theorem TwS.app1 {P : Program} {o : Oper} {a : Act} {K : Act → World → Prop} {Q : Exit → Act → World → Prop} (h : TwS B zb ze e1 e2 w0 w v1 v2 xs ys bx) (s xo : Operand) {t : TypeId} {bytes : Nat} (hT : ElemT P α t e1 bytes)
    (ho : o.op = .call { callee := .builtin .append, args := #[s, xo], argTypes := #[t, t] }) (hs : a.eval s = v1) (x : α) (cs : List Value) {g c : Nat} (hx : a.eval xo = .slice (some ⟨g, 0, none⟩) 1 c)
    (hm : (g, cs) ∈ bx) {R : Nat → Prop} (hrd : Dat.rd w0 R x cs) (hR : ∀ b, R b → zb ≤ b ∧ b < ze) (hlen : (xs.length + 1) * bytes ≤ 140737488355328) (hmax : xs.length + 1 ≤ 9223372036854775807)
    (hk : ∀ v' w', TwS B zb ze e1 e2 w0 w' v' v2 (xs ++ [x]) ys bx → w.heap.size ≤ w'.heap.size → (∃ A' c', v' = .slice A' (xs.length + 1) c') → K (a.put o.dst v') w') : o.wp P a w K Q := by
  have h4 := h.hB
  have hrd' : Dat.rd w (T2 (fun _ => False) B v1 v2 w) x cs := Dat.keep (fun p hp _ => h.mid p (hR _ hp).1 (hR _ hp).2) (fun b hb => by
    have h5 := hR b hb
    exact ⟨.inr (by omega), fun e => by have := h.r1 b e; omega, fun e => by have := h.r2 b e; omega, by omega⟩) hrd
  refine wp_two1 w s xo hT ho hs h.two x cs hx (h.box _ hm).2.1 hrd' hlen hmax (by omega) fun v' w' h2 hg hat => hk v' w' ⟨h2, ?_, h.r2, ⟨h4.1, h4.2.1, by have := hg.size; omega⟩, h.bel.grown hg (by omega) (fun k hk => (h.two.1.block k hk).1), ?_, ?_⟩ hg.size ?_
  · intro k hk
    rcases hat with e | e
    · exact h.r1 k (e ▸ hk)
    · rw [hk] at e; injection e with e; omega
  · intro p hp hp'
    refine Eq.trans (World.cell?_of_block (hg.block p.block (by omega) (fun e => ?_))) (h.mid p hp hp')
    have := h.r1 _ e.symm
    omega
  · intro p hp
    obtain ⟨q1, q2, q3, q4⟩ := h.box p hp
    refine ⟨q1, q2.grown q1 hg (fun e => q3 e.symm), fun e => ?_, q4⟩
    rcases hat with e' | e'
    · exact q3 (e' ▸ e)
    · rw [e] at e'; injection e' with e'; have := q2.lt q1; omega
  · obtain ⟨A', c', e, _⟩ := h2.1.form
    rw [snoc_len] at e
    exact ⟨A', c', e⟩
theorem TwS.app2 {P : Program} {o : Oper} {a : Act} {K : Act → World → Prop} {Q : Exit → Act → World → Prop} (h : TwS B zb ze e1 e2 w0 w v1 v2 xs ys bx) (s xo : Operand) {t : TypeId} {bytes : Nat} (hT : ElemT P β t e2 bytes)
    (ho : o.op = .call { callee := .builtin .append, args := #[s, xo], argTypes := #[t, t] }) (hs : a.eval s = v2) (y : β) (cs : List Value) {g c : Nat} (hx : a.eval xo = .slice (some ⟨g, 0, none⟩) 1 c)
    (hm : (g, cs) ∈ bx) {R : Nat → Prop} (hrd : Dat.rd w0 R y cs) (hR : ∀ b, R b → zb ≤ b ∧ b < ze) (hlen : (ys.length + 1) * bytes ≤ 140737488355328) (hmax : ys.length + 1 ≤ 9223372036854775807)
    (hk : ∀ v' w', TwS B zb ze e1 e2 w0 w' v1 v' xs (ys ++ [y]) bx → w.heap.size ≤ w'.heap.size → (∃ A' c', v' = .slice A' (ys.length + 1) c') → K (a.put o.dst v') w') : o.wp P a w K Q :=
  h.swap.app1 s xo hT ho hs y cs hx hm hrd hR hlen hmax (fun v' w' h' hs' hf => hk v' w' h'.swap hs' hf)
end
end Go.Proofs.Ytecofoilghdedaa

/- A row of symbols that lies anywhere in a block of the call's own, appended to once. No program is named here. -/
namespace Go.Proofs.Ytecofoilghdedaa
open Go.RowKit
set_option linter.unusedVariables false

/-- The row's cells; its spare may be written. -/
structure SymAt (w : World) (zb ze : Nat) (l : List Sym) (b off cap : Nat) : Prop where
  lo : zb ≤ b
  hi : b < ze
  lt : b < w.heap.size
  get : ∀ (i : Nat) (s : Sym), l[i]? = some s → w.cell? ⟨b, off + i * 2, none⟩ = some (.bool s.term) ∧ w.cell? ⟨b, off + i * 2 + 1, none⟩ = some (.int .i64 s.n)
  spare : ∀ j, j < cap * 2 → (w.cell? ⟨b, off + j, none⟩).isSome = true ∧ w.frozen? ⟨b, off + j, none⟩ = false
structure CameS (w : World) (zb ze : Nat) (l : List Sym) (ao : Option Addr) (cap : Nat) : Prop where
  le : l.length ≤ cap
  max : cap ≤ 9223372036854775807
  i64 : ∀ s ∈ l, I64 s.n
  row : (ao = none ∧ l = [] ∧ cap = 0) ∨ (∃ b off, ao = some ⟨b, off, none⟩ ∧ (0 < cap → SymAt w zb ze l b off cap))
def symCells (l : List Sym) : List Value := l.flatMap fun s => [.bool s.term, .int .i64 s.n]
theorem symCells_len (l : List Sym) : (symCells l).length = l.length * 2 := by
  induction l with
  | nil => rfl
  | cons s l ih => simp [symCells] at ih ⊢; omega
theorem symCells_get : ∀ (l : List Sym) (j : Nat) (u : Value), (symCells l)[j]? = some u → ∃ s, l[j / 2]? = some s ∧ (j % 2 = 0 → u = .bool s.term) ∧ (j % 2 = 1 → u = .int .i64 s.n)
  | [], j, u, h => by simp [symCells] at h
  | s :: l, 0, u, h => by simp [symCells] at h; exact ⟨s, rfl, fun _ => h.symm, fun h => by omega⟩
  | s :: l, 1, u, h => by simp [symCells] at h; exact ⟨s, rfl, fun h => by omega, fun _ => h.symm⟩
  | s :: l, j + 2, u, h => by
    have h' : (symCells l)[j]? = some u := by simpa [symCells] using h
    obtain ⟨x, h1, h2, h3⟩ := symCells_get l j u h'
    refine ⟨x, ?_, fun e => h2 (by omega), fun e => h3 (by omega)⟩
    rw [show (j + 2) / 2 = j / 2 + 1 from by omega]
    simpa using h1
section
variable {w w' : World} {zb ze : Nat} {l : List Sym} {ao : Option Addr} {cap : Nat}
theorem SymAt.cell {b off : Nat} (h : SymAt w zb ze l b off cap) (j : Nat) (u : Value) (hu : (symCells l)[j]? = some u) : w.cell? ⟨b, off + j, none⟩ = some u := by
  obtain ⟨s, h1, h2, h3⟩ := symCells_get l j u hu
  obtain ⟨g1, g2⟩ := h.get _ s h1
  rcases Nat.mod_two_eq_zero_or_one j with e | e
  · rw [h2 e, ← g1]
    congr 2
    omega
  · rw [h3 e, ← g2]
    congr 2
    omega
theorem SymAt.keep {b off : Nat} (h : SymAt w zb ze l b off cap) (hb : w'.heap[b]? = w.heap[b]?) (hs : w.heap.size ≤ w'.heap.size) : SymAt w' zb ze l b off cap :=
  ⟨h.lo, h.hi, Nat.lt_of_lt_of_le h.lt hs, fun i s hi => ⟨(World.cell?_of_block (a := ⟨b, _, none⟩) hb).trans (h.get i s hi).1, (World.cell?_of_block (a := ⟨b, _, none⟩) hb).trans (h.get i s hi).2⟩,
   fun j hj => by rw [World.cell?_of_block (a := ⟨b, _, none⟩) hb, World.frozen?_of_block (a := ⟨b, _, none⟩) hb]; exact h.spare j hj⟩
theorem CameS.kept {X : Nat → Prop} (h : CameS w zb ze l ao cap) (k : Kept X w w') (hX : ∀ b, zb ≤ b → b < ze → ¬ X b) : CameS w' zb ze l ao cap := by
  refine ⟨h.le, h.max, h.i64, h.row.imp id ?_⟩
  rintro ⟨b, off, e, h1⟩
  exact ⟨b, off, e, fun hc => (h1 hc).keep (k.block b (h1 hc).lt (hX b (h1 hc).lo (h1 hc).hi)) k.size⟩
theorem CameS.below (h : CameS w zb ze l ao cap) (k : Below w.heap.size w w') : CameS w' zb ze l ao cap := h.kept (Kept.of_below (fun _ => False) k) (fun _ _ _ h => h)
theorem CameS.els {S : Nat → Prop} (h : CameS w zb ze l ao cap) (hS : ∀ b, zb ≤ b → b < ze → b < w.heap.size → S b) : Els w S l ao := by
  intro hne
  have hc : 0 < cap := Nat.lt_of_lt_of_le (List.length_pos_iff.2 hne) h.le
  rcases h.row with ⟨_, e, _⟩ | ⟨b, off, e, h1⟩
  · exact absurd e hne
  · have h2 := h1 hc
    refine ⟨b, off, e, hS b h2.lo h2.hi h2.lt, fun i s hi => ⟨[.bool s.term, .int .i64 s.n], ⟨rfl, h.i64 s (List.mem_of_getElem? hi)⟩, fun j u hj => ?_⟩⟩
    obtain ⟨g1, g2⟩ := h2.get i s hi
    match j, hj with
    | 0, hj => simp at hj; subst hj; exact g1
    | 1, hj => simp at hj; subst hj; exact g2
theorem CameS.tail {s : Sym} (h : CameS w zb ze (s :: l) ao cap) : ∃ b off, ao = some ⟨b, off, none⟩ ∧ (cap = 1 → ∀ a1 a2 : Nat, CameS w zb ze l (some ⟨a1, a2, none⟩) 0) ∧ CameS w zb ze l (some ⟨b, off + 2, none⟩) (cap - 1) := by
  have hl := h.le
  have hm := h.max
  simp only [List.length_cons] at hl
  rcases h.row with ⟨_, e, _⟩ | ⟨b, off, e, h1⟩
  · cases e
  · refine ⟨b, off, e, fun hc a1 a2 => ⟨by omega, by omega, fun x hx => h.i64 x (by simp [hx]), .inr ⟨_, _, rfl, fun h => by omega⟩⟩, by omega, by omega, fun x hx => h.i64 x (by simp [hx]), .inr ⟨_, _, rfl, fun hc => ?_⟩⟩
    have h2 := h1 (by omega)
    refine ⟨h2.lo, h2.hi, h2.lt, fun i x hi => ?_, fun j hj => ?_⟩
    · have h3 := h2.get (i + 1) x (by simpa using hi)
      rw [show off + 2 + i * 2 = off + (i + 1) * 2 from by omega]
      exact h3
    · have h3 := h2.spare (2 + j) (by omega)
      rw [show off + 2 + j = off + (2 + j) from by omega]
      exact h3
theorem kept_setCells (w : World) (b : Nat) : ∀ (vs : List Value) (o : Nat) (w' : World), Kept (fun k => k = b) w w' → Kept (fun k => k = b) w (w'.setCells b o vs)
  | [], _, w', h => h
  | v :: vs, o, w', h => kept_setCells w b vs (o + 1) _ (h.setCell (p := ⟨b, o, none⟩) (.inl rfl) v)
theorem CameS.of_own {e : TypeId} {v : Value} (h : Own w (fun _ => False) zb e v l) : ∃ ao cap, v = .slice ao l.length cap ∧ CameS w zb w.heap.size l ao cap := by
  have hv := h.vl
  obtain ⟨css, ⟨h1, h2⟩, h3, h4⟩ := h
  rcases h2 with ⟨rfl, hn⟩ | ⟨g, cap, cur, rfl, hg, hh, hnc, hcm, hcs, ht⟩
  · have hl : l = [] := List.eq_nil_of_length_eq_zero hn
    subst hl
    exact ⟨none, 0, rfl, by simp, by omega, fun s hs => by simp at hs, .inl ⟨rfl, rfl, rfl⟩⟩
  · have hlt : g < w.heap.size := (Array.getElem?_eq_some_iff.1 hh).1
    obtain ⟨_, _, _, hE⟩ := hv.els
    have hi : ∀ (i : Nat) (s : Sym), l[i]? = some s → I64 s.n ∧ w.cell? ⟨g, i * 2, none⟩ = some (.bool s.term) ∧ w.cell? ⟨g, i * 2 + 1, none⟩ = some (.int .i64 s.n) := fun i s hs => by
      obtain ⟨b, o, e1, _, _, h64, c0, c1⟩ := hE.sym hs
      injection e1 with e1
      injection e1 with e1 e2 _
      subst e1; subst e2
      simp only [Nat.zero_add] at c0 c1
      exact ⟨h64, by rw [Nat.mul_comm]; rw [Nat.mul_comm] at c0; exact c0, by rw [Nat.mul_comm]; rw [Nat.mul_comm] at c1; exact c1⟩
    refine ⟨some ⟨g, 0, none⟩, cap, rfl, hnc, by simpa [maxLen] using hcm, fun s hs => ?_, .inr ⟨g, 0, rfl, fun _ => ⟨hg, hlt, hlt, fun i s hs => ?_, fun j hj => ?_⟩⟩⟩
    · obtain ⟨i, hi'⟩ := List.mem_iff_getElem?.1 hs
      exact (hi i s hi').1
    · simp only [Nat.zero_add]
      exact (hi i s hs).2
    · have hj' : j < cur.size := by rw [hcs]; exact hj
      rw [Nat.zero_add, cell_of_row w g j cur e (0, 0) hh, Array.getElem?_eq_getElem hj']
      exact ⟨rfl, by simp [World.frozen?, hh, Nat.not_lt_zero]⟩
end
section
variable {P : Program} {w : World} {zb ze : Nat} {l : List Sym} {ao : Option Addr} {cap : Nat}
theorem CameS.push {t ty e : TypeId} {bytes : Nat} (hT : ElemT P Sym t e bytes) (h : CameS w zb ze l ao cap) (hz : ze ≤ w.heap.size) (hzb : zb ≤ w.heap.size) (s : Sym) (hs : I64 s.n) {g c : Nat} (hat : At w g 0 [.bool s.term, .int .i64 s.n]) (hlen : (l.length + 1) * bytes ≤ 140737488355328) (hl : l.length ≤ 1000000) :
    ∃ A' c' w', (Builtin.append_ #[t, t] ty #[.slice ao l.length cap, .slice (some ⟨g, 0, none⟩) 1 c]).run P w = .ok (.slice A' (l.length + 1) c') w' ∧ l.length + 1 ≤ c' ∧ c' ≤ 9223372036854775807 ∧ Els w' (fun b => zb ≤ b ∧ (b < ze ∨ w.heap.size ≤ b) ∧ b < w'.heap.size) (l ++ [s]) A' ∧ Kept (fun k => zb ≤ k ∧ k < ze) w w' := by
  have hrd : ∀ W S, Dat.rd W S s [.bool s.term, .int .i64 s.n] := fun _ _ => ⟨rfl, hs⟩
  rcases h.row with ⟨rfl, rfl, rfl⟩ | ⟨b, off, rfl, h1⟩
  · obtain ⟨v', w', hrun, hown, hg, _⟩ := run_own1 (ty := ty) (c := c) hT (Own.nil (α := Sym) w (fun _ => False) w.heap.size e) hat (hrd _ _) (by simpa using hlen) (by simp) (Nat.le_refl _)
    obtain ⟨A', c', rfl, q1, q2, _⟩ := hown.form
    rw [snoc_len] at q1 hrun
    refine ⟨A', c', w', hrun, q1, q2, ?_, (Kept.of_grown (X := fun _ => False) hg (fun k hk => by simp [Value.ownBlock] at hk)).mono (fun _ _ h => h.elim)⟩
    exact hown.vl.els.2.2.2.keep (fun _ _ _ => rfl) (fun x hx => by rcases hx with ⟨hx | hx, hx2⟩; exact hx.elim; exact ⟨by omega, .inr hx, hx2⟩)
  · obtain ⟨i, z, ht, hi, hz', hsize, hby, hzs⟩ := hT
    by_cases hroom : l.length + 1 ≤ cap
    · have h2 := h1 (by omega)
      have hsz : i.size = 2 := hsize
      have hrun := run_append_room_cells (P := P) w t ty e i ht hi b off l.length cap ⟨g, 0, none⟩ 1 c [.bool s.term, .int .i64 s.n] (by rw [hsz]; rfl) (fun j u hu => by have h := hat j u hu; rw [Addr.add_lit]; exact h) (by intro u hu; simp at hu; rcases hu with rfl | rfl <;> rfl) hroom
        (fun j hj => by rw [hsz, show off + l.length * 2 + j = off + (l.length * 2 + j) from by omega]; exact (h2.spare _ (by simp at hj; omega)).1)
        (fun j hj => by rw [hsz, show off + l.length * 2 + j = off + (l.length * 2 + j) from by omega]; exact (h2.spare _ (by simp at hj; omega)).2)
      rw [hsz] at hrun
      have hK := kept_setCells w b [.bool s.term, .int .i64 s.n] (off + l.length * 2) w (Kept.refl _ _)
      refine ⟨_, cap, _, hrun, hroom, h.max, fun _ => ⟨b, off, rfl, ⟨h2.lo, .inl h2.hi, Nat.lt_of_lt_of_le h2.lt hK.size⟩, fun k x hk => ?_⟩, hK.mono (fun k _ hk => by subst hk; exact ⟨h2.lo, h2.hi⟩)⟩
      rcases Nat.lt_or_ge k l.length with hkl | hkl
      · rw [List.getElem?_append_left hkl] at hk
        refine ⟨[.bool x.term, .int .i64 x.n], ⟨rfl, h.i64 x (List.mem_of_getElem? hk)⟩, fun j u hj => ?_⟩
        have hj2 : j < 2 := by have := (List.getElem?_eq_some_iff.1 hj).1; simpa using this
        have ho : off + k * 2 + j < off + l.length * 2 := by omega
        refine Eq.trans (World.cell?_setCells_out b _ _ _ _ (fun _ _ => Or.inl ho)) ?_
        obtain ⟨g1, g2⟩ := h2.get k x hk
        match j, hj with
        | 0, hj => simp at hj; subst hj; exact g1
        | 1, hj => simp at hj; subst hj; exact g2
      · have hkl' : k = l.length := by have := (List.getElem?_eq_some_iff.1 hk).1; simp at this; omega
        subst hkl'
        have hx : x = s := by simpa using hk.symm
        subst hx
        refine ⟨[.bool x.term, .int .i64 x.n], ⟨rfl, hs⟩, fun j u hj => ?_⟩
        have hj2 : j < 2 := by have := (List.getElem?_eq_some_iff.1 hj).1; simpa using this
        have := World.cell?_setCells_in b [.bool x.term, .int .i64 x.n] (off + l.length * 2) w (fun j hj => by rw [show off + l.length * 2 + j = off + (l.length * 2 + j) from by omega]; exact (h2.spare _ (by simp at hj; omega)).1) j hj2
        refine Eq.trans this ?_
        rw [← hj, List.getElem?_eq_getElem hj2]
    · have hcl : cap = l.length := by have := h.le; omega
      have hold : ∀ j u, (symCells l)[j]? = some u → w.cell? ((⟨b, off, none⟩ : Addr).add j) = some u := fun j u hu => by
        rw [Addr.add_lit]
        have hj := (List.getElem?_eq_some_iff.1 hu).1
        rw [symCells_len] at hj
        exact (h1 (by omega)).cell j u hu
      obtain ⟨v', w', hrun, ho, hg⟩ := run_append_arg_grows (P := P) w t ty e i z 2 bytes ht hi hz' hsize hby hzs (by omega) ⟨b, off, none⟩ l.length cap (symCells l) (symCells_len l) hold ⟨g, 0, none⟩ 1 c [.bool s.term, .int .i64 s.n] rfl
        (fun j u hu => by have h := hat j u hu; rw [Addr.add_lit]; exact h) (by omega) (by simp [maxLen]; omega) hlen
      have hown : Own w' (fun _ => False) w.heap.size e v' (l ++ [s]) := by
        refine ⟨(l ++ [s]).map (fun x => [.bool x.term, .int .i64 x.n]), ?_, by simp, fun k x cs hk hc => ?_⟩
        · have e1 : ((l ++ [s]).map (fun x : Sym => [Value.bool x.term, .int .i64 x.n])).flatten = symCells l ++ [.bool s.term, .int .i64 s.n] := by simp [symCells, List.flatMap]
          rw [e1, snoc_len]
          exact ho
        · rw [List.getElem?_map, hk] at hc
          simp at hc
          subst hc
          have hm := List.mem_of_getElem? hk
          rcases List.mem_append.1 hm with hm | hm
          · exact ⟨rfl, h.i64 x hm⟩
          · simp at hm; subst hm; exact ⟨rfl, hs⟩
      obtain ⟨A', c', rfl, q1, q2, _⟩ := hown.form
      rw [snoc_len] at q1 hrun
      refine ⟨A', c', w', hrun, q1, q2, ?_, (Kept.of_grown (X := fun _ => False) hg (fun k hk => by cases hk)).mono (fun _ _ h => h.elim)⟩
      exact hown.vl.els.2.2.2.keep (fun _ _ _ => rfl) (fun x hx => by rcases hx with ⟨hx | hx, hx2⟩; exact hx.elim; exact ⟨by omega, .inr hx, hx2⟩)
theorem CameS.wp_push {o : Oper} {a : Act} {K : Act → World → Prop} {Q : Exit → Act → World → Prop} (s xo : Operand) {t e : TypeId} {bytes : Nat} (hT : ElemT P Sym t e bytes) (h : CameS w zb ze l ao cap)
    (ho : o.op = .call { callee := .builtin .append, args := #[s, xo], argTypes := #[t, t] }) (hs : a.eval s = .slice ao l.length cap) (x : Sym) (hi : I64 x.n) {g c : Nat} (hx : a.eval xo = .slice (some ⟨g, 0, none⟩) 1 c)
    (hz : ze ≤ w.heap.size) (hzb : zb ≤ w.heap.size) (hat : At w g 0 [.bool x.term, .int .i64 x.n]) (hlen : (l.length + 1) * bytes ≤ 140737488355328) (hl : l.length ≤ 1000000)
    (hk : ∀ A' c' w', l.length + 1 ≤ c' → c' ≤ 9223372036854775807 → Els w' (fun b => zb ≤ b ∧ (b < ze ∨ w.heap.size ≤ b) ∧ b < w'.heap.size) (l ++ [x]) A' → Kept (fun k => zb ≤ k ∧ k < ze) w w' → K (a.put o.dst (.slice A' (l.length + 1) c')) w') : o.wp P a w K Q := by
  obtain ⟨A', c', w', hrun, h1, h2, h3, h4⟩ := h.push (ty := o.type) (c := c) hT hz hzb x hi hat hlen hl
  unfold Oper.wp execOp
  simp only [ho, resolve, invoke, builtin, Sem.run_bind, Sem.run_pure, Result.andThen_ok, List.map_toArray, List.map_cons, List.map_nil, hs, hx, hrun]
  exact hk A' c' w' h1 h2 h3 h4
theorem CameS.wpList_push {ops : Array Oper} {rest : List Oper} {o : Oper} {a : Act} {Q : Exit → Act → World → Prop} (hgd : o.guard = none) (s xo : Operand) {t e : TypeId} {bytes : Nat} (hT : ElemT P Sym t e bytes) (h : CameS w zb ze l ao cap)
    (ho : o.op = .call { callee := .builtin .append, args := #[s, xo], argTypes := #[t, t] }) (hs : a.eval s = .slice ao l.length cap) (x : Sym) (hi : I64 x.n) {g c : Nat} (hx : a.eval xo = .slice (some ⟨g, 0, none⟩) 1 c)
    (hz : ze ≤ w.heap.size) (hzb : zb ≤ w.heap.size) (hat : At w g 0 [.bool x.term, .int .i64 x.n]) (hlen : (l.length + 1) * bytes ≤ 140737488355328) (hl : l.length ≤ 1000000)
    (hk : ∀ A' c' w', l.length + 1 ≤ c' → c' ≤ 9223372036854775807 → Els w' (fun b => zb ≤ b ∧ (b < ze ∨ w.heap.size ≤ b) ∧ b < w'.heap.size) (l ++ [x]) A' → Kept (fun k => zb ≤ k ∧ k < ze) w w' → wpList P ops Q rest (a.put o.dst (.slice A' (l.length + 1) c')) w') : wpList P ops Q (o :: rest) a w :=
  wpList_plain hgd fun _ hK => h.wp_push s xo hT ho hs x hi hx hz hzb hat hlen hl fun A' c' w' h1 h2 h3 h4 => hK _ _ (hk A' c' w' h1 h2 h3 h4)
end
end Go.Proofs.Ytecofoilghdedaa

/- A region that draws its order, by hand: the held condition S is wanted until operation d has come up, and no longer (so a region's own last stores may turn cells that its loads read). No program is named here. -/
namespace Go.Proofs.Ytecofoilghdedaa
open Go.RowKit
set_option linter.unusedVariables false

/-- Whatever order is picked; behind each operation ahead of d S holds. -/
def wpAnyD (P : Program) (md : Region.Mode) (ops : Array Oper) (Q : Exit → Act → World → Prop) (S : World → Prop) (d : Nat) : Nat → Array Bool → Act → World → Prop
  | 0, listed, a, w => Region.ready md ops listed = [] ∧ Q .normal a w
  | fuel + 1, listed, a, w =>
    (Region.ready md ops listed = [] → Q .normal a w) ∧
    ∀ i ∈ Region.ready md ops listed, wpOp P ops Q i (fun a' w' => (i ≠ d → listed.getD d false = false → S w') ∧ wpAnyD P md ops Q S d fuel (listed.setIfInBounds i true) a' w') a w
section
variable {P : Program} {ops : Array Oper} {Q : Exit → Act → World → Prop} {md : Region.Mode} {S : World → Prop} {d : Nat}
theorem wpAny_of_stage : ∀ (fuel : Nat) (listed : Array Bool) (a : Act) (w : World), wpAnyD P md ops Q S d fuel listed a w → wpAny P md ops Q fuel listed a w
  | 0, _, _, _, h => h
  | fuel + 1, _, _, _, h => ⟨h.1, fun i hi => wpOp_mono (fun a' w' h' => wpAny_of_stage fuel _ a' w' h'.2) (h.2 i hi)⟩
theorem wpAnyD_done {listed : Array Bool} {a : Act} {w : World} (hr : Region.ready md ops listed = []) (h : Q .normal a w) : ∀ fuel, wpAnyD P md ops Q S d fuel listed a w
  | 0 => ⟨hr, h⟩
  | _ + 1 => ⟨fun _ => h, by rw [hr]; simp⟩
theorem getD_other {l : Array Bool} {i j : Nat} (h : i ≠ j) (b : Bool) : (l.setIfInBounds i true).getD j b = l.getD j b := by
  simp only [Array.getD_eq_getD_getElem?]
  rw [Array.getElem?_setIfInBounds, if_neg h]
/-- An operation that d waits for, or one that yields in whatever world, may be taken first. -/
theorem wpAnyD_first {i : Nat} {oi : Oper} {v : Value} (hi : ops[i]? = some oi) (hsel : ∀ (j : Nat) (o : Oper) cs b, ops[j]? = some o → o.op ≠ .select cs b)
    (hQ : ∀ c a w, Q (.panic c) (a.put oi.dst v) w → Q (.panic c) a w) (hid : i ≠ d) (T : World → Prop)
    (hT : (∀ w, T w) ∨ ((∀ w, S w → T w) ∧ ∀ od, ops[d]? = some od → ∃ e ∈ od.after, Region.binds md e = true ∧ e.on = i)) :
    ∀ (fuel : Nat) (listed : Array Bool) (a : Act) (w : World),
      (∀ j oj, ops[j]? = some oj → j ≠ i → listed.getD j true = false → (∀ e ∈ oj.after, Region.binds md e = true → e.on ≠ i) → oi.apart ops oj = true) →
      i ∈ Region.ready md ops listed → YieldsIf P ops T oi v a → (listed.getD d false = false → S w) → ((∀ w, T w) ∨ listed.getD d false = false) →
      wpAnyD P md ops Q S d fuel (listed.setIfInBounds i true) (a.put oi.dst v) w → wpAnyD P md ops Q S d (fuel + 1) listed a w := by
  intro fuel
  induction fuel with
  | zero =>
    intro listed a w _ hr hy hS hl H
    refine ⟨fun h => (by rw [h] at hr; cases hr), fun j hj => ?_⟩
    by_cases hji : j = i
    · subst hji
      have hTw : T w := by
        rcases hT with h | h
        · exact h w
        · rcases hl with h' | h'
          · exact h' w
          · exact h.1 w (hS h')
      exact hy.wpOp hi hTw ⟨fun _ h => hS h, H⟩
    · have := ready_mono hj hji
      rw [H.1] at this
      cases this
  | succ fuel ih =>
    intro listed a w hfree hr hy hS hl H
    refine ⟨fun h => (by rw [h] at hr; cases hr), fun j hj => ?_⟩
    by_cases hji : j = i
    · subst hji
      have hTw : T w := by
        rcases hT with h | h
        · exact h w
        · rcases hl with h' | h'
          · exact h' w
          · exact h.1 w (hS h')
      exact hy.wpOp hi hTw ⟨fun _ h => hS h, H⟩
    · have h1 := H.2 j (ready_mono hj hji)
      obtain ⟨hjun, oj, hoj, hall⟩ := mem_ready.1 hj
      have hnot : ∀ e ∈ oj.after, Region.binds md e = true → e.on ≠ i := fun e he hb heq => by
        have h1 := hall e he hb
        have h0 := (mem_ready.1 hr).1
        rw [heq] at h1
        rcases Nat.lt_or_ge i listed.size with h' | h'
        · simp [h'] at h0 h1; rw [h0] at h1; cases h1
        · simp [Array.getElem?_eq_none h'] at h1
      have h2 := wpOp_putIf hoj (hfree j oj hoj hji hjun hnot) (fun cs b => hsel i oi cs b hi) (fun cs b => hsel j oj cs b hoj) hQ hy h1
      have hfree' : ∀ k ok, ops[k]? = some ok → k ≠ i → (listed.setIfInBounds j true).getD k true = false →
          (∀ e ∈ ok.after, Region.binds md e = true → e.on ≠ i) → oi.apart ops ok = true := fun k ok hk hki hun hno => by
        refine hfree k ok hk hki ?_ hno
        by_cases hjk : j = k
        · subst hjk; exact hjun
        · rw [getD_set_ne true hjk] at hun; exact hun
      have hgi : (listed.setIfInBounds i true).getD d false = listed.getD d false := getD_other hid false
      refine wpOp_mono (fun a' w' h3 => ?_) h2
      have hS' : j ≠ d → listed.getD d false = false → S w' := fun h h' => h3.2.1 h (by rw [hgi]; exact h')
      refine ⟨hS', ih (listed.setIfInBounds j true) a' w' hfree' (ready_mono hr (Ne.symm hji)) h3.1 ?_ ?_ ?_⟩
      · intro hd
        by_cases hjd : j = d
        · subst hjd
          have hlt : j < listed.size := by
            rcases Nat.lt_or_ge j listed.size with h | h
            · exact h
            · have := (mem_ready.1 hj).1
              simp [Array.getElem?_eq_none h] at this
          simp [Array.getD_eq_getD_getElem?, Array.getElem?_setIfInBounds, hlt] at hd
        · rw [getD_other hjd] at hd
          exact hS' hjd hd
      · rcases hl with h' | h'
        · exact .inl h'
        · rcases hT with h | h
          · exact .inl h
          · refine .inr ?_
            have hjd : j ≠ d := by
              rintro rfl
              obtain ⟨e, he, hb, hon⟩ := h.2 oj hoj
              exact hnot e he hb hon
            rw [getD_other hjd]
            exact h'
      · rw [Array.setIfInBounds_comm _ _ hji]
        exact h3.2.2
end
section
variable {P : Program} {l : List Oper} {Q : Exit → Act → World → Prop} {md : Region.Mode} {S : World → Prop} {d : Nat}
theorem stage_start {id : Nat} {a : Act} {w : World} (d : Nat) (hm : P.follows .mixedOrders = true) (hS : S w.drew)
    (h : S w.drew → wpAnyD P .any l.toArray Q S d l.toArray.size (Array.replicate l.toArray.size false) a w.drew) : (Code.region id l.toArray true).wp P Q a w :=
  wp_region_any hm (wpAny_of_stage _ _ _ _ (h hS))
/-- Does operation d wait for operation i? -/
def waitsB (md : Region.Mode) (ops : Array Oper) (d i : Nat) : Bool := match ops[d]? with
  | some od => od.after.any fun e => Region.binds md e && e.on == i
  | none => true
theorem waitsB_spec {ops : Array Oper} {i : Nat} (h : waitsB md ops d i = true) : ∀ od, ops[d]? = some od → ∃ e ∈ od.after, Region.binds md e = true ∧ e.on = i := by
  intro od ho
  unfold waitsB at h
  rw [ho] at h
  obtain ⟨e, he, h⟩ := Array.any_eq_true'.1 h
  simp only [Bool.and_eq_true, beq_iff_eq] at h
  exact ⟨e, he, h⟩
/-- A load ahead of d. -/
theorem st_run {i : Nat} {oi : Oper} {rest : List Oper} {v : Value} {fuel : Nat} {listed : Array Bool} {a : Act} {w : World} (hi : l.drop i = oi :: rest)
    (hs : Region.noSelect l.toArray = true) (hf : Region.free md l.toArray listed i = true) (hr : (Region.ready md l.toArray listed).contains i = true) (hid : (i != d && waitsB md l.toArray d i && !listed.getD d false) = true)
    (hQ : ∀ c a w, Q (.panic c) (a.put oi.dst v) w → Q (.panic c) a w) (hw : Region.wanted oi (yielded l.toArray a.tmps) = true) (hy : ∀ w, S w → (execOp a.eval oi).run P w = .ok (.value v) w) (hS : S w)
    (h : wpAnyD P md l.toArray Q S d fuel (listed.setIfInBounds i true) (a.put oi.dst v) w) : wpAnyD P md l.toArray Q S d (fuel + 1) listed a w := by
  simp only [Bool.and_eq_true, bne_iff_ne, Bool.not_eq_true'] at hid
  exact wpAnyD_first (drop_get hi) (Region.noSelect_spec hs) hQ hid.1.1 S (.inr ⟨fun _ h => h, waitsB_spec hid.1.2⟩) fuel listed a w (Region.free_spec (drop_get hi) hf) (by simpa using hr) (.inl ⟨hw, hy⟩) (fun _ => hS) (.inr hid.2) h
/-- An operation that yields in whatever world. -/
theorem st_pure {i : Nat} {oi : Oper} {rest : List Oper} {v : Value} {fuel : Nat} {listed : Array Bool} {a : Act} {w : World} (hi : l.drop i = oi :: rest)
    (hs : Region.noSelect l.toArray = true) (hf : Region.free md l.toArray listed i = true) (hr : (Region.ready md l.toArray listed).contains i = true) (hid : (i != d) = true)
    (hQ : ∀ c a w, Q (.panic c) (a.put oi.dst v) w → Q (.panic c) a w) (hw : Region.wanted oi (yielded l.toArray a.tmps) = true) (hy : ∀ w, (execOp a.eval oi).run P w = .ok (.value v) w) (hS : S w ∨ listed.getD d false = true)
    (h : wpAnyD P md l.toArray Q S d fuel (listed.setIfInBounds i true) (a.put oi.dst v) w) : wpAnyD P md l.toArray Q S d (fuel + 1) listed a w := by
  refine wpAnyD_first (drop_get hi) (Region.noSelect_spec hs) hQ (by simpa using hid) (fun _ => True) (.inl fun _ => trivial) fuel listed a w (Region.free_spec (drop_get hi) hf) (by simpa using hr) (.inl ⟨hw, fun w _ => hy w⟩) (fun h => ?_) (.inl fun _ => trivial) h
  rcases hS with hS | hS
  · exact hS
  · rw [h] at hS; cases hS
/-- An operation whose guard bars it. -/
theorem st_bar {i : Nat} {oi : Oper} {rest : List Oper} {fuel : Nat} {listed : Array Bool} {a : Act} {w : World} (hi : l.drop i = oi :: rest)
    (hs : Region.noSelect l.toArray = true) (hf : Region.free md l.toArray listed i = true) (hr : (Region.ready md l.toArray listed).contains i = true) (hid : (i != d) = true)
    (hQ : ∀ c a w, Q (.panic c) (a.put oi.dst undef) w → Q (.panic c) a w) (hw : Region.wanted oi (yielded l.toArray a.tmps) = false) (hS : S w ∨ listed.getD d false = true)
    (h : wpAnyD P md l.toArray Q S d fuel (listed.setIfInBounds i true) (a.put oi.dst undef) w) : wpAnyD P md l.toArray Q S d (fuel + 1) listed a w := by
  refine wpAnyD_first (drop_get hi) (Region.noSelect_spec hs) hQ (by simpa using hid) (fun _ => True) (.inl fun _ => trivial) fuel listed a w (Region.free_spec (drop_get hi) hf) (by simpa using hr) (.inr ⟨hw, rfl⟩) (fun h => ?_) (.inl fun _ => trivial) h
  rcases hS with hS | hS
  · exact hS
  · rw [h] at hS; cases hS
theorem st_ready {rs : List Nat} {fuel : Nat} {listed : Array Bool} {a : Act} {w : World} (hr : Region.ready md l.toArray listed = rs) (hne : rs ≠ [])
    (h : ∀ i ∈ rs, ∃ o, l.toArray[i]? = some o ∧ Region.wanted o (yielded l.toArray a.tmps) = true ∧ ∀ K' : Act → World → Prop, Shut (∀ a w, (i ≠ d → listed.getD d false = false → S w) → wpAnyD P md l.toArray Q S d fuel (listed.setIfInBounds i true) a w → K' a w) → Oper.wp P o a w K' Q) :
    wpAnyD P md l.toArray Q S d (fuel + 1) listed a w := by
  refine ⟨fun h0 => absurd (hr ▸ h0) hne, hr ▸ fun i hi => ?_⟩
  obtain ⟨o, ho, hw, h⟩ := h i hi
  refine wpOp_step ho fun K' hK => ?_
  rw [if_pos hw]
  exact h K' fun a w h1 h2 => hK a w ⟨h1, h2⟩
/-- The one operation that may come up, ahead of d. -/
theorem st_one {i : Nat} {o : Oper} {rest : List Oper} {fuel : Nat} {listed : Array Bool} {a : Act} {w : World} (hi : l.drop i = o :: rest) (hr : Region.ready md l.toArray listed = [i]) (hw : Region.wanted o (yielded l.toArray a.tmps) = true)
    (h : ∀ K' : Act → World → Prop, Shut (∀ a w, S w → (S w → wpAnyD P md l.toArray Q S d fuel (listed.setIfInBounds i true) a w) → K' a w) → Oper.wp P o a w K' Q) : wpAnyD P md l.toArray Q S d (fuel + 1) listed a w := by
  refine st_ready hr (by simp) fun j hj => ?_
  obtain rfl := List.mem_singleton.1 hj
  exact ⟨o, drop_get hi, hw, fun K' hK => h K' fun a w hS hW => hK.out a w (fun _ _ => hS) (hW hS)⟩
/-- The one operation that may come up, d itself or one behind it: S is wanted no longer. -/
theorem st_late {i : Nat} {o : Oper} {rest : List Oper} {fuel : Nat} {listed : Array Bool} {a : Act} {w : World} (hi : l.drop i = o :: rest) (hr : Region.ready md l.toArray listed = [i]) (hw : Region.wanted o (yielded l.toArray a.tmps) = true) (hd : (i == d || listed.getD d false) = true)
    (h : ∀ K' : Act → World → Prop, Shut (∀ a w, wpAnyD P md l.toArray Q S d fuel (listed.setIfInBounds i true) a w → K' a w) → Oper.wp P o a w K' Q) : wpAnyD P md l.toArray Q S d (fuel + 1) listed a w := by
  refine st_ready hr (by simp) fun j hj => ?_
  obtain rfl := List.mem_singleton.1 hj
  refine ⟨o, drop_get hi, hw, fun K' hK => h K' fun a w hW => hK.out a w (fun h1 h2 => ?_) hW⟩
  rw [Bool.or_eq_true] at hd
  rcases hd with hd | hd
  · exact absurd (by simpa using hd) h1
  · rw [h2] at hd; cases hd
/-- Two operations that may come up, ahead of d. -/
theorem st_two {i j : Nat} {o o' : Oper} {rest rest' : List Oper} {fuel : Nat} {listed : Array Bool} {a : Act} {w : World} (hi : l.drop i = o :: rest) (hj : l.drop j = o' :: rest') (hr : Region.ready md l.toArray listed = [i, j]) (hwi : Region.wanted o (yielded l.toArray a.tmps) = true) (hwj : Region.wanted o' (yielded l.toArray a.tmps) = true)
    (h1 : ∀ K' : Act → World → Prop, Shut (∀ a w, S w → (S w → wpAnyD P md l.toArray Q S d fuel (listed.setIfInBounds i true) a w) → K' a w) → Oper.wp P o a w K' Q)
    (h2 : ∀ K' : Act → World → Prop, Shut (∀ a w, S w → (S w → wpAnyD P md l.toArray Q S d fuel (listed.setIfInBounds j true) a w) → K' a w) → Oper.wp P o' a w K' Q) : wpAnyD P md l.toArray Q S d (fuel + 1) listed a w := by
  refine st_ready hr (by simp) fun k hk => ?_
  rcases List.mem_cons.1 hk with rfl | hk
  · exact ⟨o, drop_get hi, hwi, fun K' hK => h1 K' fun a w hS hW => hK.out a w (fun _ _ => hS) (hW hS)⟩
  · obtain rfl := List.mem_singleton.1 hk
    exact ⟨o', drop_get hj, hwj, fun K' hK => h2 K' fun a w hS hW => hK.out a w (fun _ _ => hS) (hW hS)⟩
end
end Go.Proofs.Ytecofoilghdedaa

/- How many nodes a tree has. No program is named here. -/
namespace Go.Proofs.Ytecofoilghdedaa
set_option linter.unusedVariables false

mutual
def nodesT : Tree → Nat
  | ⟨_, _, ks⟩ => 1 + nodesL ks
def nodesL : List Tree → Nat
  | [] => 0
  | k :: ks => nodesT k + nodesL ks
end
theorem nodesL_append : ∀ (a b : List Tree), nodesL (a ++ b) = nodesL a + nodesL b
  | [], b => by simp [nodesL]
  | x :: a, b => by simp only [List.cons_append, nodesL, nodesL_append a b]; omega
theorem yields_append : ∀ (a b : List Tree), yields (a ++ b) = yields a ++ yields b
  | [], b => by simp [yields]
  | x :: a, b => by simp only [List.cons_append, yields, yields_append a b, List.append_assoc]
theorem len_nodes : ∀ (a : List Tree), a.length ≤ nodesL a
  | [] => by simp [nodesL]
  | ⟨r, t, ks⟩ :: a => by have := len_nodes a; simp only [List.length_cons, nodesL, nodesT]; omega
mutual
theorem yield_nodes : ∀ (t : Tree), (yieldT t).length ≤ nodesT t
  | ⟨r, t, ks⟩ => by
    unfold yieldT nodesT
    split
    · simp
    · have := yields_nodes ks; omega
theorem yields_nodes : ∀ (ks : List Tree), (yields ks).length ≤ nodesL ks
  | [] => by simp [yields]
  | k :: ks => by
    have := yield_nodes k
    have := yields_nodes ks
    simp only [yields, List.length_append, nodesL]; omega
end
end Go.Proofs.Ytecofoilghdedaa

/- What gram.Tree computes of a tree: an error number, and how many nodes were visited. No program is named here. -/
namespace Go.Proofs.Ytecofoilghdedaa
open Go.RowKit
set_option linter.unusedVariables false

/-- The symbol at the root of a tree. -/
def rootS (g : Gram) : Tree → Sym
  | ⟨r, t, _⟩ => if r < 0 then ⟨true, t⟩ else match g.rules[r.toNat]? with
    | some q => ⟨false, q.left⟩
    | none => ⟨true, t⟩
mutual
/-- The error of a tree, and the number of nodes behind it; n nodes were visited ahead of it. -/
def visitE (g : Gram) : Tree → Int → Int × Int
  | ⟨r, t, ks⟩, n => if 5000 ≤ n then (2, n + 1) else if r = -1 then (if t < 0 ∨ g.terms ≤ t ∨ ks ≠ [] then (3, n + 1) else (0, n + 1)) else if r < 0 then (3, n + 1) else match g.rules[r.toNat]? with
    | none => (3, n + 1)
    | some q => if t ≠ 0 ∨ ks.length ≠ q.right.length then (3, n + 1) else kidsE g ks q.right (n + 1)
def kidsE (g : Gram) : List Tree → List Sym → Int → Int × Int
  | k :: ks, s :: ss, n => if (visitE g k n).1 ≠ 0 then visitE g k n else if rootS g k ≠ s then (3, (visitE g k n).2) else kidsE g ks ss (visitE g k n).2
  | [], _, n => (0, n)
  | _ :: _, [], n => (0, n)
end
def treeE (g : Gram) (t : Tree) : Int := (visitE g t 0).1

mutual
theorem visitE_bd (g : Gram) : ∀ (t : Tree) (n : Int), 0 ≤ n → n ≤ 5000 → 0 ≤ (visitE g t n).2 ∧ (visitE g t n).2 ≤ 5001 ∧ ((visitE g t n).1 = 0 → (visitE g t n).2 ≤ 5000) ∧ 0 ≤ (visitE g t n).1 ∧ (visitE g t n).1 ≤ 3
  | ⟨r, t, ks⟩, n, h0, h1 => by
    unfold visitE
    split
    · exact ⟨by dsimp only; omega, by dsimp only; omega, fun h => by dsimp only at h; omega, by dsimp only; omega, by dsimp only; omega⟩
    split
    · split
      · exact ⟨by dsimp only; omega, by dsimp only; omega, fun h => by dsimp only at h; omega, by dsimp only; omega, by dsimp only; omega⟩
      · exact ⟨by dsimp only; omega, by dsimp only; omega, fun h => by dsimp only; omega, by dsimp only; omega, by dsimp only; omega⟩
    split
    · exact ⟨by dsimp only; omega, by dsimp only; omega, fun h => by dsimp only at h; omega, by dsimp only; omega, by dsimp only; omega⟩
    split
    · exact ⟨by dsimp only; omega, by dsimp only; omega, fun h => by dsimp only at h; omega, by dsimp only; omega, by dsimp only; omega⟩
    split
    · exact ⟨by dsimp only; omega, by dsimp only; omega, fun h => by dsimp only at h; omega, by dsimp only; omega, by dsimp only; omega⟩
    · exact kidsE_bd g ks _ (n + 1) (by omega) (by omega)
theorem kidsE_bd (g : Gram) : ∀ (ks : List Tree) (ss : List Sym) (n : Int), 0 ≤ n → n ≤ 5000 → 0 ≤ (kidsE g ks ss n).2 ∧ (kidsE g ks ss n).2 ≤ 5001 ∧ ((kidsE g ks ss n).1 = 0 → (kidsE g ks ss n).2 ≤ 5000) ∧ 0 ≤ (kidsE g ks ss n).1 ∧ (kidsE g ks ss n).1 ≤ 3
  | [], ss, n, h0, h1 => by
    have e : kidsE g [] ss n = (0, n) := by cases ss <;> rfl
    rw [e]
    exact ⟨h0, by dsimp only; omega, fun _ => h1, by simp, by simp⟩
  | k :: ks, [], n, h0, h1 => by
    have e : kidsE g (k :: ks) [] n = (0, n) := rfl
    rw [e]
    exact ⟨h0, by dsimp only; omega, fun _ => h1, by simp, by simp⟩
  | k :: ks, s :: ss, n, h0, h1 => by
    have hk := visitE_bd g k n h0 h1
    unfold kidsE
    split
    · exact hk
    · rename_i hz
      have hz : (visitE g k n).1 = 0 := by omega
      have h5 := hk.2.2.1 hz
      split
      · exact ⟨hk.1, hk.2.1, fun h => by simp at h, by simp, by simp⟩
      · exact kidsE_bd g ks ss _ hk.1 h5
end
end Go.Proofs.Ytecofoilghdedaa

/- Trees by their kids; the words of kids. No program is named here. -/
namespace Go.Proofs.Ytecofoilghdedaa
open Go.RowKit
set_option linter.unusedVariables false

mutual
theorem Tree.ind {P : Tree → Prop} (h : ∀ r t ks, (∀ k ∈ ks, P k) → P ⟨r, t, ks⟩) : ∀ t, P t
  | ⟨r, t, ks⟩ => h r t ks (Tree.inds h ks)
theorem Tree.inds {P : Tree → Prop} (h : ∀ r t ks, (∀ k ∈ ks, P k) → P ⟨r, t, ks⟩) : ∀ ks : List Tree, ∀ k ∈ ks, P k
  | [], k, hk => by simp at hk
  | x :: xs, k, hk => by
    rcases List.mem_cons.1 hk with e | e
    · exact e ▸ Tree.ind h x
    · exact Tree.inds h xs k e
end
theorem yields_take {ks : List Tree} {m : Nat} {k : Tree} (h : ks[m]? = some k) : yields (ks.take (m + 1)) = yields (ks.take m) ++ yieldT k := by
  have e : ∀ (a b : List Tree), yields (a ++ b) = yields a ++ yields b := by
    intro a b
    induction a with
    | nil => rfl
    | cons x a ih => simp only [List.cons_append, yields, ih, List.append_assoc]
  rw [take_snoc h, e]
  simp [yields]
theorem yields_drop (ks : List Tree) (m : Nat) : yields ks = yields (ks.take m) ++ yields (ks.drop m) := by
  have e : ∀ (a b : List Tree), yields (a ++ b) = yields a ++ yields b := by
    intro a b
    induction a with
    | nil => rfl
    | cons x a ih => simp only [List.cons_append, yields, ih, List.append_assoc]
  rw [← e, List.take_append_drop]

end Go.Proofs.Ytecofoilghdedaa

/- Rows whose elements lead to a given set: append of a whole slice; a store elsewhere. -/
namespace Go.Proofs.Ytecofoilghdedaa
open Go.RowKit
set_option linter.unusedVariables false
section
variable {w w' : World} {S T : Nat → Prop} {base : Nat} {e : TypeId} {v : Value} {α : Type} [Dat α] {xs : List α}
theorem Own.toX (h : Own w S base e v xs) : OwnX w (OwnT S base v w) base e v xs := by
  obtain ⟨css, h1, h2, h3⟩ := h
  exact ⟨css, h1, h2, h3, fun k hk hT => hT.2.1 hk, fun b hb => hb.2.2⟩
theorem OwnX.setCell (h : OwnX w T base e v xs) {p : Addr} (hp : v.ownBlock ≠ some p.block) (hT : ¬ T p.block) (u : Value) : OwnX (w.setCell p u) T base e v xs :=
  h.grown (row := some p.block) ⟨rfl, rfl, rfl, by simp [World.setCell], fun k _ hk => Below.heap_setCell _ _ _ _ (fun e => hk (by rw [e]))⟩ (fun k hk => by cases hk; exact ⟨hp, hT⟩)
theorem OwnX.kept {X : Nat → Prop} (h : OwnX w T base e v xs) (k : Kept X w w') (hx : ∀ b, X b → v.ownBlock ≠ some b ∧ ¬ T b) : OwnX w' T base e v xs := by
  obtain ⟨css, h1, h2, h3, h4, h5⟩ := h
  have hg : ∀ g, v.ownBlock = some g → w'.heap[g]? = w.heap[g]? := fun g hg => k.block g (h1.lt g hg).2 (fun hX => (hx g hX).1 hg)
  refine ⟨css, ?_, h2, fun i x cs hi hc => Dat.keep (fun p hp hlt => k.cell hlt (fun hX => (hx _ hX).2 hp)) (fun _ hb => hb) (h3 i x cs hi hc), h4, fun b hb => Nat.lt_of_lt_of_le (h5 b hb) k.size⟩
  refine ⟨h1.1, ?_⟩
  rcases h1.2 with q | ⟨g, cap, cur, q1, q2, q3, q4⟩
  · exact .inl q
  · exact .inr ⟨g, cap, cur, q1, q2, (hg g (by rw [q1]; rfl)).trans q3, q4⟩
end
section
variable {P : Program} {w : World} {T : Nat → Prop} {base : Nat} {α : Type} [Dat α]
theorem run_ownXMany {t ty e : TypeId} {bytes : Nat} (hT : ElemT P α t e bytes) {v : Value} {xs ys : List α} {A : Option Addr} {c : Nat} (hown : OwnX w T base e v xs) (hne : ys ≠ [])
    (hys : Els w T ys A) (hlen : (xs.length + ys.length) * bytes ≤ 140737488355328) (hmax : xs.length + ys.length ≤ 9223372036854775807) (hbase : base ≤ w.heap.size) :
    ∃ v' w', (Builtin.append_ #[t, t] ty #[v, .slice A ys.length c]).run P w = .ok v' w' ∧ OwnX w' T base e v' (xs ++ ys) ∧ w.grownBy w' v.ownBlock ∧ (v'.ownBlock = v.ownBlock ∨ v'.ownBlock = some w.heap.size) := by
  obtain ⟨i, z, ht, hi, hz, hsize, hby, hzs⟩ := hT
  obtain ⟨b, o, rfl, hb, hx⟩ := hys hne
  obtain ⟨dss, h2', h3', h4'⟩ := Els.lists (o := o) ys 0 (fun i x hi => by simpa using hx i x hi)
  simp only [Nat.zero_mul, Nat.add_zero] at h4'
  obtain ⟨css, h1, h2, h3, h4, h5⟩ := hown
  have hdl : ∀ ds ∈ dss, ds.length = Dat.size α := by
    intro ds hds
    obtain ⟨i, hi, rfl⟩ := List.getElem_of_mem hds
    exact Dat.len (h3' i _ _ (List.getElem?_eq_getElem (by omega : i < ys.length)) (List.getElem?_eq_getElem hi))
  have hfl := flat_len dss hdl
  have hone : ∀ u ∈ dss.flatten, u.oneCell' = true := by
    intro u hu
    obtain ⟨ds, hds, hu⟩ := List.mem_flatten.1 hu
    obtain ⟨i, hi, rfl⟩ := List.getElem_of_mem hds
    exact Dat.one (h3' i _ _ (List.getElem?_eq_getElem (by omega : i < ys.length)) (List.getElem?_eq_getElem hi)) u hu
  obtain ⟨v', w', hr, ho, hg, _, h6⟩ := run_append_own_at (P := P) w base t ty e i z (Dat.size α) bytes ht hi hz hsize hby hzs Dat.pos v xs.length css.flatten h1 ⟨b, o, none⟩ ys.length c dss.flatten (by rw [hfl, h2'])
    (by
      intro j u hu
      have h := h4' j u hu
      have hadd : (⟨b, o, none⟩ : Addr).add j = ⟨b, o + j, none⟩ := by unfold Addr.add; split <;> simp_all
      rw [hadd]; exact h) hone (by simpa [maxLen] using hmax) hlen hbase
  exact ⟨v', w', hr, ownX_many h2 h3 h4 h5 h2' h3' ho hg h6, hg, h6⟩
theorem wp_ownXMany {o : Oper} {a : Act} {K : Act → World → Prop} {Q : Exit → Act → World → Prop} (s xo : Operand) {t e : TypeId} {bytes : Nat} (hT : ElemT P α t e bytes)
    (ho : o.op = .call { callee := .builtin .append, args := #[s, xo], argTypes := #[t, t] })
    {v : Value} {xs : List α} (hs : a.eval s = v) (hown : OwnX w T base e v xs) (ys : List α) {A : Option Addr} {n c : Nat} (hx : a.eval xo = .slice A n c) (hn : n = ys.length) (hne : ys ≠ [])
    (hys : Els w T ys A) (hlen : (xs.length + ys.length) * bytes ≤ 140737488355328) (hmax : xs.length + ys.length ≤ 9223372036854775807) (hbase : base ≤ w.heap.size)
    (h : ∀ v' w', OwnX w' T base e v' (xs ++ ys) → w.grownBy w' v.ownBlock → (v'.ownBlock = v.ownBlock ∨ v'.ownBlock = some w.heap.size) → K (a.put o.dst v') w') : o.wp P a w K Q := by
  subst hn
  obtain ⟨v', w', hrun, h2, h3, h4⟩ := run_ownXMany (ty := o.type) (c := c) hT hown hne hys hlen hmax hbase
  unfold Oper.wp execOp
  simp only [ho, resolve, invoke, builtin, Sem.run_bind, Sem.run_pure, Result.andThen_ok, List.map_toArray, List.map_cons, List.map_nil, hs, hx, hrun]
  exact h v' w' h2 h3 h4
end
end Go.Proofs.Ytecofoilghdedaa

/- Mirrored trees: plain lists. No program is named here. -/
namespace Go.Proofs.Ytecofoilghdedaa
set_option linter.unusedVariables false

mutual
def mirT : Tree → Tree
  | ⟨r, t, ks⟩ => ⟨r, t, (mirL ks).reverse⟩
def mirL : List Tree → List Tree
  | [] => []
  | k :: ks => mirT k :: mirL ks
end
theorem mirL_map : ∀ ks : List Tree, mirL ks = ks.map mirT
  | [] => rfl
  | k :: ks => by simp [mirL, mirL_map ks]
theorem mirL_len (ks : List Tree) : (mirL ks).length = ks.length := by rw [mirL_map, List.length_map]
theorem mirT_eq (r t : Int) (ks : List Tree) : mirT ⟨r, t, ks⟩ = ⟨r, t, (ks.map mirT).reverse⟩ := by rw [mirT, mirL_map]
def zeroT : Tree := ⟨0, 0, []⟩
/-- The kids on the way: m of them are in, from the end on. -/
def mirK (ks : List Tree) (m : Nat) : List Tree := List.replicate (ks.length - m) zeroT ++ ((ks.take m).map mirT).reverse
theorem mirK_zero (ks : List Tree) : mirK ks 0 = List.replicate ks.length zeroT := by simp [mirK]
theorem mirK_all (ks : List Tree) : mirK ks ks.length = (ks.map mirT).reverse := by simp [mirK]
theorem mirK_len {ks : List Tree} {m : Nat} (h : m ≤ ks.length) : (mirK ks m).length = ks.length := by
  unfold mirK
  rw [List.length_append, List.length_replicate, List.length_reverse, List.length_map, List.length_take]
  omega
theorem mirK_set {ks : List Tree} {m : Nat} {x : Tree} (h : ks[m]? = some x) : (mirK ks m).set (ks.length - 1 - m) (mirT x) = mirK ks (m + 1) := by
  have hl := (List.getElem?_eq_some_iff.1 h).1
  unfold mirK
  rw [List.take_add_one, h]
  simp only [Option.toList_some, List.map_append, List.map_cons, List.map_nil, List.reverse_append, List.reverse_cons, List.reverse_nil, List.nil_append, List.singleton_append]
  obtain ⟨d, hd⟩ : ∃ d, ks.length - m = d + 1 := ⟨ks.length - m - 1, by omega⟩
  rw [hd, show ks.length - 1 - m = d by omega, show ks.length - (m + 1) = d by omega, List.replicate_succ', List.append_assoc, List.set_append_right _ _ (by simp), List.length_replicate, Nat.sub_self]
  rfl
theorem nodes_mem {k : Tree} : ∀ {ks : List Tree}, k ∈ ks → nodesT k ≤ nodesL ks
  | x :: ks, h => by
    rcases List.mem_cons.1 h with e | h
    · subst e; simp only [nodesL]; omega
    · have := nodes_mem h; simp only [nodesL]; omega
mutual
theorem Tree.indM {P : Tree → Prop} (h : ∀ r t ks, (∀ k ∈ ks, P k) → P ⟨r, t, ks⟩) : ∀ t, P t
  | ⟨r, t, ks⟩ => h r t ks (Tree.indN h ks)
theorem Tree.indN {P : Tree → Prop} (h : ∀ r t ks, (∀ k ∈ ks, P k) → P ⟨r, t, ks⟩) : ∀ ks : List Tree, ∀ k ∈ ks, P k
  | [], k, hk => by simp at hk
  | x :: xs, k, hk => by
    rcases List.mem_cons.1 hk with e | e
    · exact e ▸ Tree.indM h x
    · exact Tree.indN h xs k e
end
end Go.Proofs.Ytecofoilghdedaa

/- Plain: a tree of a grammar is no error. No program is named here. -/
namespace Go.Proofs.Ytecofoilghdedaa
open Go.RowKit
set_option linter.unusedVariables false

theorem vtsLenE {g : Gram} : ∀ (ks : List Tree) (ss : List Sym), vts g ks ss → ks.length = ss.length
  | [], [], _ => rfl
  | k :: ks, s :: ss, h => by unfold vts at h; simp [vtsLenE ks ss h.2]
  | [], _ :: _, h => by unfold vts at h; exact h.elim
  | _ :: _, [], h => by unfold vts at h; exact h.elim

mutual
theorem visitE_of {g : Gram} (hs : ∀ q ∈ g.rules, ∀ s ∈ q.right, s.term = true → 0 ≤ s.n ∧ s.n < g.terms) : ∀ (t : Tree) (s : Sym) (n : Int), vt g t s → (s.term = true → 0 ≤ s.n ∧ s.n < g.terms) → 0 ≤ n → n + (nodesT t : Int) ≤ 5000 → visitE g t n = (0, n + (nodesT t : Int)) ∧ rootS g t = s
  | ⟨r, t, ks⟩, ⟨st, sn⟩, n, h, h1, h0, h5 => by
    unfold vt at h
    unfold nodesT at h5 ⊢
    cases st
    · simp only [Bool.false_eq_true, if_false] at h
      obtain ⟨rfl, hr, q, hq, hl, hk⟩ := h
      have h6 := kidsE_of hs ks q.right (n + 1) hk (hs q (List.mem_of_getElem? hq)) (by omega) (by omega)
      constructor
      · rw [visitE, if_neg (by omega), if_neg (by omega), if_neg (by omega), hq]
        dsimp only
        rw [if_neg (by rintro (h | h); exact h rfl; exact h (vtsLenE ks q.right hk)), h6]
        simp; omega
      · unfold rootS
        dsimp only
        rw [if_neg (by omega), hq]
        simp [hl]
    · simp only [if_true] at h
      obtain ⟨rfl, rfl, rfl⟩ := h
      have h2 := h1 rfl
      constructor
      · dsimp only at h2
        rw [visitE, if_neg (by omega), if_pos rfl, if_neg (by rintro (h | h | h); omega; omega; exact h rfl)]
        simp [nodesL]
      · unfold rootS
        dsimp only
        rw [if_pos (by omega)]
theorem kidsE_of {g : Gram} (hs : ∀ q ∈ g.rules, ∀ s ∈ q.right, s.term = true → 0 ≤ s.n ∧ s.n < g.terms) : ∀ (ks : List Tree) (ss : List Sym) (n : Int), vts g ks ss → (∀ s ∈ ss, s.term = true → 0 ≤ s.n ∧ s.n < g.terms) → 0 ≤ n → n + (nodesL ks : Int) ≤ 5000 → kidsE g ks ss n = (0, n + (nodesL ks : Int))
  | [], ss, n, h, _, _, _ => by
    have e : kidsE g [] ss n = (0, n) := by cases ss <;> rfl
    rw [e]; simp [nodesL]
  | k :: ks, s :: ss, n, h, h1, h0, h5 => by
    unfold vts at h
    unfold nodesL at h5 ⊢
    obtain ⟨g1, g2⟩ := visitE_of hs k s n h.1 (h1 s (by simp)) h0 (by omega)
    have g3 := kidsE_of hs ks ss (n + (nodesT k : Int)) h.2 (fun x hx => h1 x (by simp [hx])) (by omega) (by omega)
    unfold kidsE
    rw [g1]
    dsimp only
    rw [if_neg (by simp), if_neg (by simp [g2]), g3]
    simp; omega
  | _ :: _, [], _, h, _, _, _ => by simp [vts] at h
end
theorem treeE_vt {g : Gram} (hs : ∀ q ∈ g.rules, ∀ s ∈ q.right, s.term = true → 0 ≤ s.n ∧ s.n < g.terms) {t : Tree} {a : Int} (h : vt g t ⟨false, a⟩) (hn : nodesT t ≤ 5000) : treeE g t = 0 := by
  unfold treeE
  rw [(visitE_of hs t _ 0 h (fun h => by simp at h) (by omega) (by omega)).1]
end Go.Proofs.Ytecofoilghdedaa

/- Lists alike up to a place. -/
namespace Go.Proofs.Ytecofoilghdedaa
open Go.RowKit
set_option linter.unusedVariables false

theorem take_ne {α : Type} {xs ys : List α} {k : Nat} {x y : α} (hx : xs[k]? = some x) (hy : ys[k]? = some y) (h : x ≠ y) : xs ≠ ys := by
  rintro rfl; rw [hx] at hy; exact h (by injection hy)
theorem take_eq {α : Type} {xs ys : List α} {k : Nat} {x y : α} (hx : xs[k]? = some x) (hy : ys[k]? = some y) (h : x = y) (ht : xs.take k = ys.take k) : xs.take (k + 1) = ys.take (k + 1) := by
  rw [take_snoc hx, take_snoc hy, ht, h]
theorem take_all {α : Type} {xs ys : List α} {k : Nat} (hl : xs.length = ys.length) (hk : xs.length ≤ k) (ht : xs.take k = ys.take k) : xs = ys := by
  rwa [List.take_of_length_le hk, List.take_of_length_le (by omega)] at ht
end Go.Proofs.Ytecofoilghdedaa

