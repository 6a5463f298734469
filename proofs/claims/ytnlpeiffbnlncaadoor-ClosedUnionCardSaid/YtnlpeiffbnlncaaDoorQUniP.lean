/- Plain: the trees of a union are those of both grammars. No program is named here. -/
import Derived.Test.YtnlpeiffbnlncaaDoorQRenP
import Derived.Test.YtnlpeiffbnlncaaDoorQp2
namespace Go.Proofs.YtnlpeiffbnlncaaDoor
set_option linter.unusedVariables false

def uniG (a b : Gram) : Gram := ⟨a.terms, a.nons + b.nons + 1, a.nons + b.nons, a.rules.map (shR 0) ++ b.rules.map (shR a.nons) ++ [⟨a.nons + b.nons, [⟨false, a.start⟩]⟩, ⟨a.nons + b.nons, [⟨false, a.nons + b.start⟩]⟩]⟩
def InG (g : Gram) (s : Sym) : Prop := s.term = true ∨ (0 ≤ s.n ∧ s.n < g.nons)
theorem inG_kids {g : Gram} (hv : ValidG g) {q : Rule} (hq : q ∈ g.rules) : ∀ s ∈ q.right, InG g s := fun s hs => by
  have h := (hv.rules q hq).2.2.2 s hs
  by_cases ht : s.term = true
  · exact .inl ht
  · rw [if_neg ht] at h; exact .inr h
theorem InG.non {g : Gram} {a : Int} (h : InG g ⟨false, a⟩) : 0 ≤ a ∧ a < g.nons := by
  rcases h with h | h
  · simp at h
  · exact h
theorem uni_left {g h : Gram} (hg : ValidG g) (hh : ValidG h) : Ren g (uniG g h) id id (InG g) (shS 0) := by
  refine ⟨fun s => ?_, fun s hs => ?_, fun i q hq ho _ => ?_, fun r z hz a ha hza => ?_⟩
  · unfold shS; split
    · rfl
    · rename_i h; simpa using h
  · unfold shS; rw [if_pos hs]
  · have hqm := List.mem_of_getElem? hq
    have hil := (List.getElem?_eq_some_iff.1 hq).1
    refine ⟨i, rfl, ?_, rfl, inG_kids hg hqm⟩
    simp only [uniG]
    rw [List.append_assoc, List.getElem?_append_left (by simpa using hil), List.getElem?_map, hq]
    simp [shR, shS]
  · have ha' := ha.non
    have hz1 : z.left = a := by simpa [shS] using hza
    simp only [uniG] at hz
    rw [List.append_assoc] at hz
    rcases Nat.lt_or_ge r g.rules.length with hlt | hge
    · rw [List.getElem?_append_left (by simpa using hlt), List.getElem?_map] at hz
      obtain ⟨q, hq⟩ := get_some hlt
      rw [hq] at hz
      simp only [Option.map_some, Option.some.injEq] at hz
      subst hz
      exact ⟨r, q, rfl, hq, by simpa [shR] using hz1, rfl, rfl, inG_kids hg (List.mem_of_getElem? hq)⟩
    · exfalso
      rw [List.getElem?_append_right (by simpa using hge)] at hz
      have hm := List.mem_of_getElem? hz
      rcases List.mem_append.1 hm with hm | hm
      · obtain ⟨q, hq, rfl⟩ := List.mem_map.1 hm
        have := (hh.rules q hq).1
        simp only [shR] at hz1
        omega
      · have := hh.n1
        simp at hm
        rcases hm with rfl | rfl <;> (dsimp only at hz1; omega)
theorem uni_right {g h : Gram} (hg : ValidG g) (hh : ValidG h) : Ren h (uniG g h) (fun i => i + (g.rules.length : Int)) (fun r => r - (g.rules.length : Int)) (InG h) (shS g.nons) := by
  refine ⟨fun s => ?_, fun s hs => ?_, fun i q hq ho _ => ?_, fun r z hz a ha hza => ?_⟩
  · unfold shS; split
    · rfl
    · rename_i h; simpa using h
  · unfold shS; rw [if_pos hs]
  · have hqm := List.mem_of_getElem? hq
    have hil := (List.getElem?_eq_some_iff.1 hq).1
    refine ⟨i + g.rules.length, by push_cast; rfl, ?_, by push_cast; omega, inG_kids hh hqm⟩
    simp only [uniG]
    rw [List.append_assoc, List.getElem?_append_right (by simp), List.length_map, Nat.add_sub_cancel, List.getElem?_append_left (by simpa using hil), List.getElem?_map, hq]
    simp [shR, shS]
  · have ha' := ha.non
    have hz1 : z.left = a + g.nons := by simpa [shS] using hza
    simp only [uniG] at hz
    rw [List.append_assoc] at hz
    rcases Nat.lt_or_ge r g.rules.length with hlt | hge
    · exfalso
      rw [List.getElem?_append_left (by simpa using hlt)] at hz
      obtain ⟨q, hq, rfl⟩ := List.mem_map.1 (List.mem_of_getElem? hz)
      have := (hg.rules q hq).2.1
      simp only [shR] at hz1
      omega
    · rw [List.getElem?_append_right (by simpa using hge), List.length_map] at hz
      rcases Nat.lt_or_ge (r - g.rules.length) h.rules.length with hlt | hge2
      · rw [List.getElem?_append_left (by simpa using hlt), List.getElem?_map] at hz
        obtain ⟨q, hq⟩ := get_some hlt
        rw [hq] at hz
        simp only [Option.map_some, Option.some.injEq] at hz
        subst hz
        refine ⟨r - g.rules.length, q, by omega, hq, by simp only [shR] at hz1; omega, rfl, by omega, inG_kids hh (List.mem_of_getElem? hq)⟩
      · exfalso
        rw [List.getElem?_append_right (by simpa using hge2)] at hz
        have hm := List.mem_of_getElem? hz
        simp at hm
        rcases hm with rfl | rfl <;> (dsimp only at hz1; omega)
/-- Counts of a sum. -/
theorem cnt_sum {P Q R : Tree → Prop} {x y z : Int} (hx : CntIs P x) (hy : CntIs Q y) (hz : CntIs R z) (a b : Tree → Tree) (ha : ∀ t, P t → R (a t) ∧ nodesT t ≤ nodesT (a t)) (hb : ∀ t, Q t → R (b t) ∧ nodesT t ≤ nodesT (b t))
    (ia : ∀ t u, P t → P u → a t = a u → t = u) (ib : ∀ t u, Q t → Q u → b t = b u → t = u) (hd : ∀ t u, P t → Q u → a t ≠ b u) (ho : ∀ t, R t → (∃ u, P u ∧ t = a u) ∨ (∃ u, Q u ∧ t = b u)) :
    ((x = -1 ∨ y = -1) → z = -1) ∧ (x ≠ -1 → y ≠ -1 → z = min (x + y) 1000000000 ∧ x + y ≤ 2000000000 ∧ 0 ≤ x ∧ 0 ≤ y) := by
  have inf : ∀ N : Nat → Prop, (∀ n, N n) → True := fun _ _ => trivial
  have no : ∀ M : List Tree, (∀ t, t ∈ M ↔ R t) → (∀ N : Nat, ∃ t, R t ∧ N ≤ nodesT t) → False := fun M hM hN => by
    obtain ⟨B, hB⟩ := nodes_bound M
    obtain ⟨t, h1, h2⟩ := hN B
    have := hB t ((hM t).2 h1)
    omega
  rcases hz with ⟨rfl, hz⟩ | ⟨M, hM, hMR, rfl⟩
  · refine ⟨fun _ => rfl, fun h1 h2 => ?_⟩
    rcases hx with ⟨rfl, _⟩ | ⟨K, _, hK, rfl⟩
    · exact absurd rfl h1
    rcases hy with ⟨rfl, _⟩ | ⟨L, _, hL, rfl⟩
    · exact absurd rfl h2
    exfalso
    obtain ⟨B, hB⟩ := nodes_bound (K.map a ++ L.map b)
    obtain ⟨t, h3, h4⟩ := hz B
    have hm : t ∈ K.map a ++ L.map b := by
      rcases ho t h3 with ⟨u, hu, rfl⟩ | ⟨u, hu, rfl⟩
      · exact List.mem_append.2 (.inl (List.mem_map_of_mem ((hK u).2 hu)))
      · exact List.mem_append.2 (.inr (List.mem_map_of_mem ((hL u).2 hu)))
    have := hB t hm
    omega
  · rcases hx with ⟨rfl, hx⟩ | ⟨K, hKn, hK, rfl⟩
    · exact (no M hMR (fun N => by obtain ⟨t, h1, h2⟩ := hx N; exact ⟨a t, (ha t h1).1, Nat.le_trans h2 (ha t h1).2⟩)).elim
    rcases hy with ⟨rfl, hy⟩ | ⟨L, hLn, hL, rfl⟩
    · exact (no M hMR (fun N => by obtain ⟨t, h1, h2⟩ := hy N; exact ⟨b t, (hb t h1).1, Nat.le_trans h2 (hb t h1).2⟩)).elim
    have hn1 : (K.map a ++ L.map b).Nodup := by
      rw [List.nodup_append]
      refine ⟨nodup_map a K hKn (fun t ht u hu => ia t u ((hK t).1 ht) ((hK u).1 hu)), nodup_map b L hLn (fun t ht u hu => ib t u ((hL t).1 ht) ((hL u).1 hu)), fun t ht u hu e => ?_⟩
      obtain ⟨t', h1, rfl⟩ := List.mem_map.1 ht
      obtain ⟨u', h2, rfl⟩ := List.mem_map.1 hu
      exact hd t' u' ((hK t').1 h1) ((hL u').1 h2) e
    have e1 : (K.map a ++ L.map b).length ≤ M.length := nodup_leC _ _ hn1 (fun t ht => (hMR t).2 (by
      rcases List.mem_append.1 ht with ht | ht
      · obtain ⟨u, hu, rfl⟩ := List.mem_map.1 ht; exact (ha u ((hK u).1 hu)).1
      · obtain ⟨u, hu, rfl⟩ := List.mem_map.1 ht; exact (hb u ((hL u).1 hu)).1))
    have e2 : M.length ≤ (K.map a ++ L.map b).length := nodup_leC _ _ hM (fun t ht => by
      rcases ho t ((hMR t).1 ht) with ⟨u, hu, rfl⟩ | ⟨u, hu, rfl⟩
      · exact List.mem_append.2 (.inl (List.mem_map_of_mem ((hK u).2 hu)))
      · exact List.mem_append.2 (.inr (List.mem_map_of_mem ((hL u).2 hu))))
    rw [List.length_append, List.length_map, List.length_map] at e1 e2
    exact ⟨fun h => by omega, fun _ _ => by omega⟩
mutual
theorem mapT_nodes (f : Int → Int) : ∀ t : Tree, nodesT (mapT f t) = nodesT t
  | ⟨r, t, ks⟩ => by
    unfold mapT
    split
    · rfl
    · simp only [nodesT]
      rw [mapTs_nodes f ks]
theorem mapTs_nodes (f : Int → Int) : ∀ ks : List Tree, nodesL (mapTs f ks) = nodesL ks
  | [] => rfl
  | k :: ks => by
    simp only [mapTs, nodesL]
    rw [mapT_nodes f k, mapTs_nodes f ks]
end
/-- The trees of a union. -/
theorem uni_count {g h : Gram} (hg : ValidG g) (hh : ValidG h) {w : List Int} {x y z : Int} (hx : CntIs (TreesOf g w) x) (hy : CntIs (TreesOf h w) y) (hz : CntIs (TreesOf (uniG g h) w) z) :
    ((x = -1 ∨ y = -1) → z = -1) ∧ (x ≠ -1 → y ≠ -1 → z = min (x + y) 1000000000 ∧ x + y ≤ 2000000000 ∧ 0 ≤ x ∧ 0 ≤ y) := by
  have RL := uni_left hg hh
  have RR := uni_right hg hh
  have hog : InG g ⟨false, g.start⟩ := .inr ⟨hg.s0, hg.s1⟩
  have hoh : InG h ⟨false, h.start⟩ := .inr ⟨hh.s0, hh.s1⟩
  have n1 := hg.n1
  have n2 := hh.n1
  have e1 : (uniG g h).rules[g.rules.length + h.rules.length]? = some ⟨g.nons + h.nons, [⟨false, g.start⟩]⟩ := by
    simp only [uniG]
    rw [List.getElem?_append_right (by simp)]
    simp
  have e2 : (uniG g h).rules[g.rules.length + h.rules.length + 1]? = some ⟨g.nons + h.nons, [⟨false, g.nons + h.start⟩]⟩ := by
    simp only [uniG]
    rw [List.getElem?_append_right (by simp)]
    simp [show g.rules.length + h.rules.length + 1 - (g.rules.length + h.rules.length) = 1 by omega]
  have s1 : shS 0 ⟨false, g.start⟩ = ⟨false, g.start⟩ := by simp [shS]
  have s2 : shS g.nons ⟨false, h.start⟩ = ⟨false, g.nons + h.start⟩ := by unfold shS; rw [if_neg (by simp)]; congr 1; show h.start + g.nons = _; omega
  have one : ∀ (r : Nat) (s : Sym) (t : Tree), (uniG g h).rules[r]? = some ⟨g.nons + h.nons, [s]⟩ → vt (uniG g h) t s → vt (uniG g h) ⟨(r : Int), 0, [t]⟩ ⟨false, (uniG g h).start⟩ ∧ yieldT ⟨(r : Int), 0, [t]⟩ = yieldT t ∧ nodesT t ≤ nodesT ⟨(r : Int), 0, [t]⟩ := fun r s t hr ht => by
    refine ⟨?_, ?_, ?_⟩
    · unfold vt
      rw [if_neg (by simp)]
      exact ⟨rfl, by omega, _, by rw [Int.toNat_natCast]; exact hr, rfl, by simp only [vts]; exact ⟨ht, trivial⟩⟩
    · rw [yieldT, if_neg (by omega)]
      simp [yields]
    · simp only [nodesT, nodesL]; omega
  refine cnt_sum hx hy hz (fun t => ⟨((g.rules.length + h.rules.length : Nat) : Int), 0, [mapT id t]⟩) (fun t => ⟨((g.rules.length + h.rules.length + 1 : Nat) : Int), 0, [mapT (fun i => i + (g.rules.length : Int)) t]⟩) (fun t ht => ?_) (fun t ht => ?_) (fun t u ht hu e => ?_) (fun t u ht hu e => ?_) (fun t u _ _ e => ?_) (fun t ht => ?_)
  · obtain ⟨i1, i2, i3⟩ := RL.to_ t _ ht.1 hog
    rw [s1] at i1
    obtain ⟨j1, j2, j3⟩ := one _ _ _ e1 i1
    exact ⟨⟨j1, by rw [j2, i3, ht.2]⟩, by rw [mapT_nodes] at j3; exact j3⟩
  · obtain ⟨i1, i2, i3⟩ := RR.to_ t _ ht.1 hoh
    rw [s2] at i1
    obtain ⟨j1, j2, j3⟩ := one _ _ _ e2 i1
    exact ⟨⟨j1, by rw [j2, i3, ht.2]⟩, by rw [mapT_nodes] at j3; exact j3⟩
  · injection e with _ _ e
    injection e with e _
    rw [← (RL.to_ t _ ht.1 hog).2.1, ← (RL.to_ u _ hu.1 hog).2.1, e]
  · injection e with _ _ e
    injection e with e _
    rw [← (RR.to_ t _ ht.1 hoh).2.1, ← (RR.to_ u _ hu.1 hoh).2.1, e]
  · injection e with e _ _
    omega
  · obtain ⟨hv, hw⟩ := ht
    obtain ⟨r, tt, ks⟩ := t
    unfold vt at hv
    rw [if_neg (by simp)] at hv
    obtain ⟨rfl, hr, q, hq, hql, hks⟩ := hv
    obtain ⟨j, rfl⟩ : ∃ j : Nat, r = (j : Int) := ⟨r.toNat, by omega⟩
    rw [Int.toNat_natCast] at hq
    have hql2 : q.left = g.nons + h.nons := hql
    have hq2 := hq
    simp only [uniG] at hq2
    have hyl : yieldT ⟨(j : Int), 0, ks⟩ = yields ks := by unfold yieldT; rw [if_neg (by omega)]
    rw [hyl] at hw
    have hge : g.rules.length + h.rules.length ≤ j := by
      rcases Nat.lt_or_ge j (g.rules.length + h.rules.length) with hlt | hge
      · exfalso
        rw [List.getElem?_append_left (by simpa using hlt)] at hq2
        rcases List.mem_append.1 (List.mem_of_getElem? hq2) with hm | hm
        · obtain ⟨q', hq', rfl⟩ := List.mem_map.1 hm
          have := (hg.rules q' hq').2.1
          simp only [shR] at hql2
          omega
        · obtain ⟨q', hq', rfl⟩ := List.mem_map.1 hm
          have := (hh.rules q' hq').2.1
          simp only [shR] at hql2
          omega
      · exact hge
    have hjl := (List.getElem?_eq_some_iff.1 hq2).1
    simp at hjl
    have single : ∀ s : Sym, q.right = [s] → ∃ u, ks = [u] ∧ vt (uniG g h) u s ∧ yieldT u = w := fun s hs => by
      rw [hs] at hks
      match ks, hks with
      | [u], hks =>
        simp only [vts] at hks
        refine ⟨u, rfl, hks.1, ?_⟩
        simpa [yields] using hw
      | [], hks => simp [vts] at hks
      | _ :: _ :: _, hks => simp [vts] at hks
    rcases Nat.lt_or_ge (g.rules.length + h.rules.length) j with hlt | hle
    · have hj : j = g.rules.length + h.rules.length + 1 := by omega
      subst hj
      rw [e2] at hq
      injection hq with hq
      obtain ⟨u, rfl, hu, hyu⟩ := single ⟨false, g.nons + h.start⟩ (by rw [← hq])
      rw [← s2] at hu
      obtain ⟨i1, i2, i3⟩ := RR.fro u _ hu hoh
      exact .inr ⟨mapT _ u, ⟨i1, i3.trans hyu⟩, by rw [i2]⟩
    · have hj : j = g.rules.length + h.rules.length := by omega
      subst hj
      rw [e1] at hq
      injection hq with hq
      obtain ⟨u, rfl, hu, hyu⟩ := single ⟨false, g.start⟩ (by rw [← hq])
      rw [← s1] at hu
      obtain ⟨i1, i2, i3⟩ := RL.fro u _ hu hog
      exact .inl ⟨mapT _ u, ⟨i1, i3.trans hyu⟩, by rw [i2]⟩
end Go.Proofs.YtnlpeiffbnlncaaDoor
