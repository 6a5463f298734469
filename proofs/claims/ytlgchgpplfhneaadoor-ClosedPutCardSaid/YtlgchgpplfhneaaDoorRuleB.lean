/- Rules with the blocks of their right sides: a row of rules whose right sides lie apart, and a store into one of them. No program is named here. -/
import Derived.Test.YtlgchgpplfhneaaDoorData
import Derived.Test.YtlgchgpplfhneaaDoorKept
namespace Go.Proofs.YtlgchgpplfhneaaDoor
open Go.RowKit
set_option linter.unusedVariables false

structure RuleB where
  rule : Rule
  blk : Nat
instance instDatRuleB : Dat RuleB where
  size := 2
  wraps := true
  rd w S r cs := ∃ v, cs = [.int .i64 r.rule.left, v] ∧ I64 r.rule.left ∧ Vl w (fun b => b = r.blk ∧ S b) r.rule.right v
  len h := by obtain ⟨v, rfl, _⟩ := h; rfl
  pos := by decide
  flat h := by simp at h
  one h := by
    obtain ⟨v, rfl, _, hv⟩ := h
    obtain ⟨A, c, rfl, _⟩ := hv.slice
    intro u hu; simp at hu; rcases hu with rfl | rfl <;> rfl
  keep hk hS h := by obtain ⟨v, h1, h2, h3⟩ := h; exact ⟨v, h1, h2, h3.keep (fun p hp => hk p hp.2) (fun b hb => ⟨hb.1, hS b hb.2⟩)⟩

section
variable {w w' : World} {S : Nat → Prop} {base : Nat} {e : TypeId} {v : Value} {xs : List RuleB}
theorem Own.rules (h : Own w S base e v xs) : Own w S base e v (xs.map RuleB.rule) := by
  obtain ⟨css, h1, h2, h3⟩ := h
  refine ⟨css, by rw [List.length_map]; exact h1, by rw [List.length_map]; exact h2, fun i x cs hi hc => ?_⟩
  rw [List.getElem?_map] at hi
  cases hx : xs[i]? with
  | none => rw [hx] at hi; cases hi
  | some y =>
    rw [hx] at hi
    injection hi with hi
    subst hi
    obtain ⟨u, h4, h5, h6⟩ := h3 i y cs hx hc
    exact ⟨u, h4, h5, h6.keep (fun _ _ _ => rfl) (fun b hb => hb.2)⟩
/-- The right sides lie in blocks of their own, from lo on. -/
structure Frs (w : World) (lo : Nat) (xs : List RuleB) : Prop where
  apart : ∀ (i k : Nat) (x y : RuleB), xs[i]? = some x → xs[k]? = some y → i ≠ k → x.blk ≠ y.blk
  cells : ∀ x ∈ xs, lo ≤ x.blk ∧ x.blk < w.heap.size ∧ (x.rule.right ≠ [] → ∃ t cur, Blk' w x.blk t cur)
theorem Frs.nil (w : World) (lo : Nat) : Frs w lo [] := ⟨fun i k x y h => by simp at h, fun x h => by simp at h⟩
theorem Frs.kept {X : Nat → Prop} {lo : Nat} (h : Frs w lo xs) (k : Kept X w w') (hx : ∀ x ∈ xs, x.rule.right ≠ [] → ¬ X x.blk) : Frs w' lo xs :=
  ⟨h.apart, fun x hm => by
    obtain ⟨h1, h2, h3⟩ := h.cells x hm
    refine ⟨h1, Nat.lt_of_lt_of_le h2 k.size, fun hne => ?_⟩
    obtain ⟨t, cur, hb⟩ := h3 hne
    exact ⟨t, cur, hb.kept k (hx x hm hne)⟩⟩
theorem Frs.below {lo : Nat} (h : Frs w lo xs) (k : Below w.heap.size w w') : Frs w' lo xs := h.kept (Kept.of_below (fun _ => False) k) (fun _ _ _ h => h)
theorem Frs.snoc {lo : Nat} {x : RuleB} (h : Frs w lo xs) (hl : lo ≤ x.blk) (hs : x.blk < w.heap.size) (hc : x.rule.right ≠ [] → ∃ t cur, Blk' w x.blk t cur) (hn : ∀ y ∈ xs, y.blk ≠ x.blk) : Frs w lo (xs ++ [x]) := by
  refine ⟨fun i k a b hi hk hne => ?_, fun y hy => ?_⟩
  · rcases Nat.lt_or_ge i xs.length with h1 | h1
    · rw [List.getElem?_append_left h1] at hi
      rcases Nat.lt_or_ge k xs.length with h2 | h2
      · rw [List.getElem?_append_left h2] at hk
        exact h.apart i k a b hi hk hne
      · rw [List.getElem?_append_right h2] at hk
        obtain ⟨h3, h4⟩ := List.getElem?_eq_some_iff.1 hk
        simp at h4
        subst h4
        exact hn a (List.mem_of_getElem? hi)
    · rw [List.getElem?_append_right h1] at hi
      obtain ⟨h3, h4⟩ := List.getElem?_eq_some_iff.1 hi
      simp at h3 h4
      subst h4
      rcases Nat.lt_or_ge k xs.length with h2 | h2
      · rw [List.getElem?_append_left h2] at hk
        exact fun e => hn b (List.mem_of_getElem? hk) e.symm
      · rw [List.getElem?_append_right h2] at hk
        obtain ⟨h5, h6⟩ := List.getElem?_eq_some_iff.1 hk
        simp at h5
        omega
  · rcases List.mem_append.1 hy with hy | hy
    · exact h.cells y hy
    · simp at hy
      subst hy
      exact ⟨hl, hs, hc⟩
theorem Own.ruleNe (h : Own w S base e v xs) {x : RuleB} (hx : x ∈ xs) (hne : x.rule.right ≠ []) : v.ownBlock ≠ some x.blk := by
  obtain ⟨i, hi, rfl⟩ := List.getElem_of_mem hx
  obtain ⟨g, c, cs, _, _, _, hrd, _⟩ := h.at_ (List.getElem?_eq_getElem hi)
  obtain ⟨u, _, _, hv⟩ := hrd
  obtain ⟨A, c', rfl, _, _, hE⟩ := hv.slice
  obtain ⟨b, o, _, ⟨hb, hT⟩, _⟩ := hE hne
  rw [← hb]
  exact hT.2.1
/-- A row's rule, for a load. -/
theorem Own.ruleB (h : Own w S base e v xs) {k : Nat} {x : RuleB} (hk : xs[k]? = some x) :
    ∃ g cap A c, v = .slice (some ⟨g, 0, none⟩) xs.length cap ∧ base ≤ g ∧ g < w.heap.size ∧ I64 x.rule.left ∧ x.rule.right.length ≤ c ∧ c ≤ 9223372036854775807 ∧ Els w (fun b => b = x.blk ∧ OwnT S base v w b) x.rule.right A ∧ w.cell? ⟨g, k * 2, none⟩ = some (.int .i64 x.rule.left) ∧ w.cell? ⟨g, k * 2 + 1, none⟩ = some (.slice A x.rule.right.length c) := by
  obtain ⟨g, cap, cs, hv, hg1, hg2, hrd, hat⟩ := h.at_ hk
  obtain ⟨u, rfl, hI, hvl⟩ := hrd
  obtain ⟨A, c, rfl, h1, h2, h3⟩ := hvl.slice
  exact ⟨g, cap, A, c, hv, hg1, hg2, hI, h1, h2, h3, hat.c0, hat.c1⟩
/-- A symbol is stored into the right side of one rule. -/
theorem Own.putB (h : Own w S base e v xs) {i j g cap o m c n : Nat} {x : RuleB} {t : TypeId} {cur : Array Value} (hi : xs[i]? = some x) (hap : ∀ k y, xs[k]? = some y → k ≠ i → y.blk ≠ x.blk)
    (hv : v = .slice (some ⟨g, 0, none⟩) n cap) (hc : w.cell? ⟨g, i * 2 + 1, none⟩ = some (.slice (some ⟨x.blk, o, none⟩) m c)) (hB : Blk' w x.blk t cur) (hj : j < x.rule.right.length) (s : Sym) (hs : I64 s.n) :
    Own ((w.setCell ⟨x.blk, o + j * 2, none⟩ (.bool s.term)).setCell ⟨x.blk, o + j * 2 + 1, none⟩ (.int .i64 s.n)) S base e v (xs.set i ⟨⟨x.rule.left, x.rule.right.set j s⟩, x.blk⟩) := by
  have hne : x.rule.right ≠ [] := fun e => by rw [e] at hj; simp at hj
  have hnb := h.ruleNe (List.mem_of_getElem? hi) hne
  have hB' := (hB.set_ (o + j * 2) (.bool s.term)).set_ (o + j * 2 + 1) (.int .i64 s.n)
  have hk : Kept (fun y => y = x.blk) w ((w.setCell ⟨x.blk, o + j * 2, none⟩ (.bool s.term)).setCell ⟨x.blk, o + j * 2 + 1, none⟩ (.int .i64 s.n)) := ((Kept.refl (fun y => y = x.blk) w).setCell (p := ⟨x.blk, o + j * 2, none⟩) (.inl rfl) _).setCell (p := ⟨x.blk, o + j * 2 + 1, none⟩) (.inl rfl) _
  obtain ⟨g2, cap2, cs2, hv2, _, _, _, _⟩ := h.at_ hi
  have h0 := h
  obtain ⟨css, h1, h2, h3⟩ := h
  generalize hw' : (w.setCell ⟨x.blk, o + j * 2, none⟩ (.bool s.term)).setCell ⟨x.blk, o + j * 2 + 1, none⟩ (.int .i64 s.n) = w' at *
  have hil : i < css.length := by have := (List.getElem?_eq_some_iff.1 hi).1; omega
  have hci : css[i]? = some css[i] := List.getElem?_eq_getElem hil
  have hcl : ∀ cs ∈ css, cs.length = 2 := by
    intro cs hcs
    obtain ⟨i, hi, rfl⟩ := List.getElem_of_mem hcs
    exact Dat.len (h3 i _ _ (List.getElem?_eq_getElem (by omega : i < xs.length)) (List.getElem?_eq_getElem hi))
  obtain ⟨u, hcs, hI, hvl⟩ := h3 i x _ hi hci
  obtain ⟨A, c', rfl, l1, l2, hE⟩ := hvl.slice
  have hcell : A = some ⟨x.blk, o, none⟩ := by
    subst hv
    have hf := flat_get css hcl i 1 _ _ hci (by rw [hcs]; rfl)
    rcases h1.2 with ⟨q, _⟩ | ⟨g3, cap3, cur3, q, _, q2, _, _, _, q3⟩
    · cases q
    · injection q with q _ _
      injection q with q
      injection q with q _ _
      subst q
      have h6 : cur3[i * 2 + 1]? = some (.slice A x.rule.right.length c') := by
        rw [← q3, List.getElem?_take] at hf
        split at hf
        · rw [← Array.getElem?_toList]; exact hf
        · cases hf
      have h7 : w.cell? ⟨g, i * 2 + 1, none⟩ = cur3[i * 2 + 1]? := cell_of_row w g (i * 2 + 1) cur3 e (0, 0) q2
      rw [h7, h6] at hc
      injection hc with hc
      injection hc with hc _ _
  subst hcell
  obtain ⟨b1, o1, hA, ⟨_, hT⟩, hx⟩ := hE hne
  injection hA with hA
  injection hA with e1 e2 _
  subst e1; subst e2
  have hTT : ∀ b, OwnT S base v w b → OwnT S base v w' b := fun b hb => ⟨hb.1, hb.2.1, Nat.lt_of_lt_of_le hb.2.2 hk.size⟩
  refine ⟨css, ?_, by rw [List.length_set]; exact h2, fun k y cs hk1 hc1 => ?_⟩
  · rw [List.length_set]
    refine ⟨h1.1, ?_⟩
    rcases h1.2 with q | ⟨g3, cap3, cur3, q1, q2, q3, q4⟩
    · exact .inl q
    · exact .inr ⟨g3, cap3, cur3, q1, q2, (hk.block g3 (Array.getElem?_eq_some_iff.1 q3).1 (fun e => hnb (by rw [q1, ← e]; rfl))).trans q3, q4⟩
  · rw [List.getElem?_set] at hk1
    split at hk1
    · rename_i ek
      subst ek
      split at hk1
      · injection hk1 with hk1
        subst hk1
        rw [hci] at hc1
        injection hc1 with hc1
        subst hc1
        refine ⟨_, hcs, hI, Vl.of_slice (by dsimp only; rw [List.length_set]) (by dsimp only; rw [List.length_set]; exact l1) l2 (fun _ => ⟨x.blk, o, rfl, ⟨rfl, hTT _ hT⟩, fun m z hz => ?_⟩)⟩
        dsimp only at hz
        rw [List.getElem?_set] at hz
        split at hz
        · rename_i em
          subst em
          injection hz with hz
          subst hz
          obtain ⟨ds, ⟨rfl, hd⟩, hat⟩ := hx j _ (List.getElem?_eq_getElem hj)
          have c0 : w.cell? ⟨x.blk, o + j * 2, none⟩ = _ := hat.c0
          have c1 : w.cell? ⟨x.blk, o + j * 2 + 1, none⟩ = _ := hat.c1
          rw [hB.cell] at c0 c1
          have d0 := (Array.getElem?_eq_some_iff.1 c0).1
          have d1 := (Array.getElem?_eq_some_iff.1 c1).1
          refine ⟨_, ⟨rfl, hs⟩, fun q u hu => ?_⟩
          rw [hB'.cell]
          show _[o + j * 2 + q]? = _
          match q, hu with
          | 0, hu => simp at hu; subst hu; rw [Array.getElem?_setIfInBounds_ne (by omega), Nat.add_zero, Array.getElem?_setIfInBounds_self_of_lt d0]
          | 1, hu => simp at hu; subst hu; rw [Array.getElem?_setIfInBounds_self_of_lt (by simpa using d1)]
        · rename_i em
          obtain ⟨ds, ⟨rfl, hd⟩, hat⟩ := hx m _ hz
          refine ⟨_, ⟨rfl, hd⟩, fun q u hu => ?_⟩
          have h8 := hat q u hu
          rw [hB.cell] at h8
          have hq : q < 2 := (List.getElem?_eq_some_iff.1 hu).1
          rw [hB'.cell]
          change cur[o + m * 2 + q]? = _ at h8
          show _[o + m * 2 + q]? = _
          rw [Array.getElem?_setIfInBounds_ne (by omega), Array.getElem?_setIfInBounds_ne (by omega)]
          exact h8
      · cases hk1
    · rename_i ek
      obtain ⟨u, h4, h5, h6⟩ := h3 k y cs hk1 hc1
      have hyb := hap k y hk1 (fun e => ek e.symm)
      exact ⟨u, h4, h5, h6.keep (fun p hp hlt => hk.cell hlt (fun e => hyb (hp.1.symm.trans e))) (fun b hb => ⟨hb.1, hTT b hb.2⟩)⟩
theorem Frs.put {lo : Nat} (h : Frs w lo xs) {i : Nat} {x y : RuleB} (hi : xs[i]? = some x) (hy : y.blk = x.blk) (k : Kept (fun b => b = x.blk) w w') (hB : ∃ t cur, Blk' w' x.blk t cur) : Frs w' lo (xs.set i y) := by
  have hb : ∀ (k : Nat) z, (xs.set i y)[k]? = some z → ∃ z', xs[k]? = some z' ∧ z'.blk = z.blk ∧ (k ≠ i → z' = z) := by
    intro k z hz
    rw [List.getElem?_set] at hz
    split at hz
    · rename_i e
      subst e
      split at hz
      · injection hz with hz
        subst hz
        exact ⟨x, hi, hy.symm, fun e => absurd rfl e⟩
      · cases hz
    · exact ⟨z, hz, rfl, fun _ => rfl⟩
  refine ⟨fun a c p q h1 h2 hne => ?_, fun z hz => ?_⟩
  · obtain ⟨p', h3, h4, _⟩ := hb a p h1
    obtain ⟨q', h5, h6, _⟩ := hb c q h2
    rw [← h4, ← h6]
    exact h.apart a c p' q' h3 h5 hne
  · obtain ⟨n, hn, rfl⟩ := List.getElem_of_mem hz
    obtain ⟨z', h3, h4, h5⟩ := hb n _ (List.getElem?_eq_getElem hn)
    obtain ⟨h6, h7, h8⟩ := h.cells z' (List.mem_of_getElem? h3)
    rw [← h4]
    refine ⟨h6, Nat.lt_of_lt_of_le h7 k.size, fun hne => ?_⟩
    by_cases e : n = i
    · subst e
      rw [hi] at h3
      injection h3 with h3
      rw [← h3]
      exact hB
    · have e2 := h5 e
      have h9 := h.apart n i z' x h3 hi e
      rw [← e2] at hne
      obtain ⟨t, cur, hc⟩ := h8 hne
      exact ⟨t, cur, hc.kept k h9⟩
theorem Frs.lo {lo lo' : Nat} (h : Frs w lo xs) (hl : lo' ≤ lo) : Frs w lo' xs := ⟨h.apart, fun x hx => ⟨Nat.le_trans hl (h.cells x hx).1, (h.cells x hx).2⟩⟩
end
section
variable {w : World} {S : Nat → Prop} {base : Nat} {e : TypeId} {v : Value}
theorem Own.blk {α : Type} [Dat α] {xs : List α} (h : Own w S base e v xs) {k : Nat} (hk : v.ownBlock = some k) : ∃ t cur, Blk' w k t cur := by
  obtain ⟨css, h1, _⟩ := h
  rcases h1.2 with ⟨rfl, _⟩ | ⟨g, cap, cur, rfl, _, hh, _⟩
  · cases hk
  · injection hk with hk
    subst hk
    exact ⟨_, _, hh⟩
theorem Own.symEls {xs : List Sym} {A : Option Addr} {n c : Nat} (h : Own w S base e (.slice A n c) xs) : Els w (fun b => (Value.slice A n c).ownBlock = some b) xs A := by
  intro hne
  obtain ⟨b, o, rfl, _, hx⟩ := h.vl.els.2.2.2 hne
  exact ⟨b, o, rfl, rfl, fun i x hi => by
    obtain ⟨cs, h1, h2⟩ := hx i x hi
    exact ⟨cs, h1, h2⟩⟩
/-- The block of a symbols' row, or a number of its own where there is none. -/
theorem Own.kb {xs : List Sym} {A : Option Addr} {c lo hi : Nat} (h : Own w S base e (.slice A xs.length c) xs) (h1 : lo ≤ base) (h2 : lo < hi) (h3 : w.heap.size ≤ hi) : ∃ kb, lo ≤ kb ∧ kb < hi ∧ (xs ≠ [] → (Value.slice A xs.length c).ownBlock = some kb) ∧ Els w (fun b => b = kb) xs A := by
  by_cases hne : xs = []
  · exact ⟨lo, Nat.le_refl _, h2, fun h => absurd hne h, fun h => absurd hne h⟩
  · obtain ⟨b, o, rfl, hb, _⟩ := h.vl.els.2.2.2 hne
    have h4 := h.block b rfl
    exact ⟨b, Nat.le_trans h1 h4.1, Nat.lt_of_lt_of_le h4.2 h3, fun _ => rfl, h.symEls.keep (fun _ _ _ => rfl) (fun k hk => by injection hk with hk; exact hk.symm)⟩
end
end Go.Proofs.YtlgchgpplfhneaaDoor
