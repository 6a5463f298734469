/- Follow, in words that name no way of computing it; the program's table is that. No program is named here. -/
import Derived.Test.YtbboceklkjfimaaDoorQFirstSaysP
import Derived.Test.YtbboceklkjfimaaDoorQPredict
import Derived.Test.YtbboceklkjfimaaDoorQp1
namespace Go.Proofs.YtbboceklkjfimaaDoor
open Go.RowKit
set_option linter.unusedVariables false

/-- What follows a nonterminal: a terminal t, or the end (t = m). -/
def FolR (g : Gram) (m a t : Nat) : Prop :=
  (t = m ∧ WkB g m true (m + g.start.toNat) (m + a)) ∨
  (t < m ∧ ∃ (q : Rule) (i k : Nat) (x y : Sym), q ∈ g.rules ∧ Rea g (fun _ => true) q.left.toNat ∧ i < k ∧ q.right[i]? = some x ∧ q.right[k]? = some y ∧ Nuls g ((q.right.take k).drop (i + 1)) ∧ WkB g m true (nodeS m x) (m + a) ∧ WkF g m (nodeS m y) t)
theorem WkB.ahead {g : Gram} {m a b c : Nat} {back : Bool} (h : WkB g m back a b) (hs : EdgB g m back b c) : WkB g m back a c := .snoc b c h hs
theorem WkB.term {g : Gram} {m a b : Nat} {back : Bool} (ha : a < m) (h : WkB g m back a b) : a = b := by
  induction h with
  | refl => rfl
  | snoc x y _ hs ih =>
    obtain ⟨q, i, z, _, _, _, e, _⟩ := hs
    omega
theorem nodeS_non {m : Nat} {x : Sym} (h : x.term = false) : nodeS m x = m + x.n.toNat := by unfold nodeS; rw [h]; rfl
theorem nodeS_term {m : Nat} {x : Sym} (h : x.term = true) : nodeS m x = x.n.toNat := by unfold nodeS; rw [h]; rfl

section
variable {g : Gram} {m n : Nat} {e inn : List Bool} {f fol : List (List Bool)}
/-- A way back from a nonterminal that is reached carries what follows. -/
theorem folR_way (hv : ValidG g) (hm : g.terms = (m : Int)) (hn : g.nons = (n : Int)) (hst : Stable g m n e f) (hf : ClosedFol g m e f inn fol) {L : List Int} (hL : LFix g n L) {b : Nat} (hb : inn.getD b false = true) : ∀ v : Nat, WkB g m true (m + b) v → ∀ a : Nat, v = m + a → inn.getD a false = true ∧ ∀ t : Nat, (fol.getD b [])[t]? = some true → (fol.getD a [])[t]? = some true := by
  intro v hw
  induction hw with
  | refl =>
    intro a ha
    have e1 : a = b := (by omega)
    subst e1
    exact ⟨hb, fun t h => h⟩
  | snoc u v _ hs ih =>
    intro a ha
    obtain ⟨q, i, x, hq, hx, hem, hu, hvx⟩ := hs
    obtain ⟨i1, i2⟩ := ih q.left.toNat hu
    have hxm := List.mem_of_getElem? hx
    have hB := hv.bounds hm hn q hq
    cases hxt : x.term
    · rw [nodeS_non hxt] at hvx
      have e1 : x.n.toNat = a := by omega
      subst e1
      have hsub : ∀ s ∈ q.right.drop (i + 1), SymIn m g s := fun s hs => hv.symIn hm q hq s (List.mem_of_mem_drop hs)
      have h2 := (hst.ofRow hv hm hn hL hsub).2
      refine ⟨hf.reach q hq i1 x hxm hxt, fun t ht => hf.pass q hq i1 i x hx hxt ?_ t (i2 t ht)⟩
      rw [h2, emptyB_iff]
      intro s hs
      obtain ⟨h3, h4⟩ := hem s hs
      exact ⟨h3, (hL.nullB (hv.rulesIn hn) (by have := (hB.2 s (List.mem_of_mem_drop hs)).1 h3; exact this)).2 h4⟩
    · rw [nodeS_term hxt] at hvx
      have := (hB.2 x hxm).2 hxt
      omega
theorem mid_drop {α : Type} (l : List α) (i j : Nat) : (l.take (i + 1 + j)).drop (i + 1) = (l.drop (i + 1)).take j := by
  rw [List.take_add]
  rw [List.drop_append]
  by_cases h : i + 1 ≤ l.length
  · have h1 : (l.take (i + 1)).length = i + 1 := by rw [List.length_take]; omega
    rw [h1, Nat.sub_self, List.drop_zero, List.drop_of_length_le (by omega)]
    rfl
  · have h1 : l.drop (i + 1) = [] := List.drop_of_length_le (by omega)
    rw [h1]
    simp
/-- What is meant stands in the program's table. -/
theorem folR_in (hv : ValidG g) (hm : g.terms = (m : Int)) (hn : g.nons = (n : Int)) (hst : Stable g m n e f) (hf : ClosedFol g m e f inn fol) {L : List Int} (hL : LFix g n L) (hin : RFix g (fun _ => true) n inn) {a t : Nat} (h : FolR g m a t) : (fol.getD a [])[t]? = some true := by
  have hri := hv.rulesIn hn
  rcases h with ⟨rfl, hw⟩ | ⟨ht, q, i, k, x, y, hq, hrea, hik, hx, hy, hem, hwx, hwy⟩
  · exact (folR_way hv hm hn hst hf hL hf.startIn _ hw a rfl).2 _ hf.start
  · have hB := hv.bounds hm hn q hq
    have hxm := List.mem_of_getElem? hx
    have hql : inn.getD q.left.toNat false = true := by
      have h1 := ((hin.rset hri).2 q.left.toNat hB.1).2 hrea
      rw [List.getD_eq_getElem?_getD, h1]; rfl
    cases hxt : x.term
    · rw [nodeS_non hxt] at hwx
      have hxi := hf.reach q hq hql x hxm hxt
      refine (folR_way hv hm hn hst hf hL hxi _ hwx a rfl).2 t ?_
      have hsub : ∀ s ∈ q.right.drop (i + 1), SymIn m g s := fun s hs => hv.symIn hm q hq s (List.mem_of_mem_drop hs)
      refine hf.row q hq hql i x hx hxt t (((hst.ofRow hv hm hn hL hsub).1.2 t ht).2 ⟨k - (i + 1), y, ?_, ?_, hwy⟩)
      · rw [List.getElem?_drop, show i + 1 + (k - (i + 1)) = k from by omega]; exact hy
      · have h1 := mid_drop q.right i (k - (i + 1))
        rw [show i + 1 + (k - (i + 1)) = k from by omega] at h1
        rw [← h1]
        exact hem
    · rw [nodeS_term hxt] at hwx
      have := (hB.2 x hxm).2 hxt
      have := hwx.term this
      omega
/-- What is meant is closed. -/
theorem folR_closed (hv : ValidG g) (hm : g.terms = (m : Int)) (hn : g.nons = (n : Int)) (hst : Stable g m n e f) (hf : ClosedFol g m e f inn fol) {L : List Int} (hL : LFix g n L) (hin : RFix g (fun _ => true) n inn) {F : List (List Bool)} (hF : F.length = n) (hrow : ∀ (a : Nat) (row : List Bool), F[a]? = some row → RowIs (m + 1) (FolR g m a) row) : ClosedFol g m e f inn F := by
  have hri := hv.rulesIn hn
  have hFd : ∀ a : Nat, a < n → RowIs (m + 1) (FolR g m a) (F.getD a []) := fun a ha => by
    obtain ⟨r, hr⟩ := get_some (show a < F.length by omega)
    rw [List.getD_eq_getElem?_getD, hr]
    exact hrow a r hr
  have hrea : ∀ q ∈ g.rules, inn.getD q.left.toNat false = true → Rea g (fun _ => true) q.left.toNat := fun q hq h => ((hin.rset hri).2 _ (hri q hq).2.1).1 (getD_some_true.1 h)
  have hs1 : g.start.toNat < n := by have h1 := hv.s0; have h2 := hv.s1; omega
  refine ⟨by rw [hF, hn]; simp, fun a row hr => (hrow a row hr).1, hf.startIn, ((hFd _ hs1).2 m (by omega)).2 (.inl ⟨rfl, .refl⟩), hf.reach, fun q hq hql i x hx hxt j hj => ?_, fun q hq hql i x hx hxt hem j hj => ?_⟩
  · have hB := hv.bounds hm hn q hq
    have hsub : ∀ s ∈ q.right.drop (i + 1), SymIn m g s := fun s hs => hv.symIn hm q hq s (List.mem_of_mem_drop hs)
    have hjm : j < m := by have := (List.getElem?_eq_some_iff.1 hj).1; rw [ofFrom_len, List.length_replicate] at this; exact this
    obtain ⟨p, y, hy, hnu, hw⟩ := ((hst.ofRow hv hm hn hL hsub).1.2 j hjm).1 hj
    rw [List.getElem?_drop] at hy
    refine ((hFd _ ((hB.2 x (List.mem_of_getElem? hx)).1 hxt)).2 j (by omega)).2 (.inr ⟨hjm, q, i, i + 1 + p, x, y, hq, hrea q hq hql, by omega, hx, hy, ?_, ?_, hw⟩)
    · rw [mid_drop]; exact hnu
    · rw [nodeS_non hxt]; exact .refl
  · have hB := hv.bounds hm hn q hq
    have hsub : ∀ s ∈ q.right.drop (i + 1), SymIn m g s := fun s hs => hv.symIn hm q hq s (List.mem_of_mem_drop hs)
    have hxn := (hB.2 x (List.mem_of_getElem? hx)).1 hxt
    have hjm : j < m + 1 := by have := (List.getElem?_eq_some_iff.1 hj).1; rw [(hFd _ hB.1).1] at this; exact this
    rw [(hst.ofRow hv hm hn hL hsub).2, emptyB_iff] at hem
    have hed : EdgB g m true (m + q.left.toNat) (m + x.n.toNat) := ⟨q, i, x, hq, hx, fun s hs => ⟨(hem s hs).1, (hL.nullB hri ((hB.2 s (List.mem_of_mem_drop hs)).1 (hem s hs).1)).1 (hem s hs).2⟩, rfl, (nodeS_non hxt).symm⟩
    refine ((hFd _ hxn).2 j hjm).2 ?_
    rcases ((hFd _ hB.1).2 j hjm).1 hj with ⟨h1, h2⟩ | ⟨h1, q', i', k', x', y', a1, a2, a3, a4, a5, a6, a7, a8⟩
    · exact .inl ⟨h1, h2.ahead hed⟩
    · exact .inr ⟨h1, q', i', k', x', y', a1, a2, a3, a4, a5, a6, a7.ahead hed, a8⟩
open Classical in
/-- The program's table is what is meant. -/
theorem folR_rows (hv : ValidG g) (hm : g.terms = (m : Int)) (hn : g.nons = (n : Int)) (hst : Stable g m n e f) (hf : ClosedFol g m e f inn fol) (hle : ∀ F, ClosedFol g m e f inn F → LeF F fol) {L : List Int} (hL : LFix g n L) (hin : RFix g (fun _ => true) n inn) {a : Nat} {row : List Bool} (hr : fol[a]? = some row) : RowIs (m + 1) (FolR g m a) row := by
  refine ⟨hf.rows a row hr, fun t ht => ⟨fun h => ?_, fun h => ?_⟩⟩
  · have hfl : fol.length = n := by rw [hf.len, hn]; simp
    have han : a < n := by have := (List.getElem?_eq_some_iff.1 hr).1; omega
    have hF : ∀ (b : Nat) (r : List Bool), ((List.range n).map fun b => (List.range (m + 1)).map fun t => decide (FolR g m b t))[b]? = some r → RowIs (m + 1) (FolR g m b) r := fun b r hb => by
      rw [List.getElem?_map] at hb
      obtain ⟨b', hb', rfl⟩ := Option.map_eq_some_iff.1 hb
      have e1 : b' = b := by
        have h1 := (List.getElem?_eq_some_iff.1 hb')
        obtain ⟨h2, h3⟩ := h1
        rw [List.getElem_range] at h3
        exact h3.symm
      subst e1
      refine ⟨by simp, fun t ht => ?_⟩
      rw [List.getElem?_map, List.getElem?_range ht]
      simp
    have hc := folR_closed hv hm hn hst hf hL hin (by simp) hF
    have h1 := hle _ hc a row hr t h
    obtain ⟨r, hr2⟩ := get_some (show a < ((List.range n).map fun b => (List.range (m + 1)).map fun t => decide (FolR g m b t)).length by simpa using han)
    rw [List.getD_eq_getElem?_getD, hr2] at h1
    exact ((hF a r hr2).2 t ht).1 h1
  · have h1 := folR_in hv hm hn hst hf hL hin h
    rw [List.getD_eq_getElem?_getD, hr] at h1
    exact h1
end
/-- What stands in a rule's row of Predict. -/
def PreR (g : Gram) (m : Nat) (q : Rule) (t : Nat) : Prop := (t < m ∧ FirstL g m q.right t) ∨ (Nuls g q.right ∧ FolR g m q.left.toNat t)
end Go.Proofs.YtbboceklkjfimaaDoor
