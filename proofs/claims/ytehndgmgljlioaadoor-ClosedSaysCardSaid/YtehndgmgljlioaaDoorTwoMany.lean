/- Rows whose elements lead to a given set: append of a whole slice; a store elsewhere. -/
import Derived.Test.YtehndgmgljlioaaDoorTwo
namespace Go.Proofs.YtehndgmgljlioaaDoor
open Go.RowKit
set_option linter.unusedVariables false
section
variable {w w' : World} {S T : Nat → Prop} {base : Nat} {e : TypeId} {v : Value} {α : Type} [Dat α] {xs : List α}
theorem Own.toX (h : Own w S base e v xs) : OwnX w (OwnT S base v w) base e v xs := by
  obtain ⟨css, h1, h2, h3⟩ := h
  exact ⟨css, h1, h2, h3, fun k hk hT => hT.2.1 hk, fun b hb => hb.2.2⟩
theorem OwnX.setCell (h : OwnX w T base e v xs) {p : Addr} (hp : v.ownBlock ≠ some p.block) (hT : ¬ T p.block) (u : Value) : OwnX (w.setCell p u) T base e v xs :=
  h.grown (row := some p.block) ⟨rfl, rfl, rfl, by simp [World.setCell], fun k _ hk => Below.heap_setCell _ _ _ _ (fun e => hk (by rw [e]))⟩ (fun k hk => by cases hk; exact ⟨hp, hT⟩)
end
section
variable {P : Program} {w : World} {T : Nat → Prop} {base : Nat} {α : Type} [Dat α]
theorem run_ownXMany {t ty e : TypeId} {bytes : Nat} (hT : ElemT P α t e bytes) {v : Value} {xs ys : List α} {A : Option Addr} {c : Nat} (hown : OwnX w T base e v xs) (hne : ys ≠ [])
    (hys : Els w T ys A) (hlen : (xs.length + ys.length) * bytes ≤ 140737488355328) (hmax : xs.length + ys.length ≤ 9223372036854775807) (hbase : base ≤ w.heap.size) :
    ∃ v' w', (Builtin.append_ #[t, t] ty #[v, .slice A ys.length c]).run P w = .ok v' w' ∧ OwnX w' T base e v' (xs ++ ys) ∧ w.grownBy w' v.ownBlock ∧ (v'.ownBlock = v.ownBlock ∨ v'.ownBlock = some w.heap.size) := by
  obtain ⟨i, z, ht, hi, hz, hsize, hby, hzs⟩ := hT
  obtain ⟨b, o, rfl, hb, hx⟩ := hys hne
  obtain ⟨dss, h2', h3', h4'⟩ := Els.lists (o := o) ys 0 (fun i x hi => by simpa using hx i x hi)
  simp only [Nat.zero_mul, Nat.add_zero] at h4'
  obtain ⟨css, h1, h2, h3, h4, h5⟩ := hown
  have hdl : ∀ ds ∈ dss, ds.length = Dat.size α := by
    intro ds hds
    obtain ⟨i, hi, rfl⟩ := List.getElem_of_mem hds
    exact Dat.len (h3' i _ _ (List.getElem?_eq_getElem (by omega : i < ys.length)) (List.getElem?_eq_getElem hi))
  have hfl := flat_len dss hdl
  have hone : ∀ u ∈ dss.flatten, u.oneCell' = true := by
    intro u hu
    obtain ⟨ds, hds, hu⟩ := List.mem_flatten.1 hu
    obtain ⟨i, hi, rfl⟩ := List.getElem_of_mem hds
    exact Dat.one (h3' i _ _ (List.getElem?_eq_getElem (by omega : i < ys.length)) (List.getElem?_eq_getElem hi)) u hu
  obtain ⟨v', w', hr, ho, hg, _, h6⟩ := run_append_own_at (P := P) w base t ty e i z (Dat.size α) bytes ht hi hz hsize hby hzs Dat.pos v xs.length css.flatten h1 ⟨b, o, none⟩ ys.length c dss.flatten (by rw [hfl, h2'])
    (by
      intro j u hu
      have h := h4' j u hu
      have hadd : (⟨b, o, none⟩ : Addr).add j = ⟨b, o + j, none⟩ := by unfold Addr.add; split <;> simp_all
      rw [hadd]; exact h) hone (by simpa [maxLen] using hmax) hlen hbase
  exact ⟨v', w', hr, ownX_many h2 h3 h4 h5 h2' h3' ho hg h6, hg, h6⟩
theorem wp_ownXMany {o : Oper} {a : Act} {K : Act → World → Prop} {Q : Exit → Act → World → Prop} (s xo : Operand) {t e : TypeId} {bytes : Nat} (hT : ElemT P α t e bytes)
    (ho : o.op = .call { callee := .builtin .append, args := #[s, xo], argTypes := #[t, t] })
    {v : Value} {xs : List α} (hs : a.eval s = v) (hown : OwnX w T base e v xs) (ys : List α) {A : Option Addr} {n c : Nat} (hx : a.eval xo = .slice A n c) (hn : n = ys.length) (hne : ys ≠ [])
    (hys : Els w T ys A) (hlen : (xs.length + ys.length) * bytes ≤ 140737488355328) (hmax : xs.length + ys.length ≤ 9223372036854775807) (hbase : base ≤ w.heap.size)
    (h : ∀ v' w', OwnX w' T base e v' (xs ++ ys) → w.grownBy w' v.ownBlock → (v'.ownBlock = v.ownBlock ∨ v'.ownBlock = some w.heap.size) → K (a.put o.dst v') w') : o.wp P a w K Q := by
  subst hn
  obtain ⟨v', w', hrun, h2, h3, h4⟩ := run_ownXMany (ty := o.type) (c := c) hT hown hne hys hlen hmax hbase
  unfold Oper.wp execOp
  simp only [ho, resolve, invoke, builtin, Sem.run_bind, Sem.run_pure, Result.andThen_ok, List.map_toArray, List.map_cons, List.map_nil, hs, hx, hrun]
  exact h v' w' h2 h3 h4
end
end Go.Proofs.YtehndgmgljlioaaDoor
