/- The plain law of FirstFollows with two systems of sets: Follow and Predict each make their own. No program is named here. -/
import Derived.Test.YtlbhaegdcpacpaaFollowP
namespace Go.Proofs.Ytlbhaegdcpacpaa
open Go.RowKit
set_option linter.unusedVariables false

/-- The nonterminal s is reached and its row holds c. -/
def NodF (inn : List Bool) (fol : List (List Bool)) (s : Sym) (c : Int) : Prop := inn.getD s.n.toNat false = true ∧ (fol.getD s.n.toNat [])[c.toNat]? = some true
theorem kid_next {g : Gram} {m : Nat} {e inn : List Bool} {f fol : List (List Bool)} (hc : ClosedS g m e f) (hok : ∀ q ∈ g.rules, ∀ s ∈ q.right, SymIn m g s) (hf : ClosedFol g m e f inn fol) (q : Rule) (hm : q ∈ g.rules) (hin : inn.getD q.left.toNat false = true)
    (i : Nat) (x : Sym) (hx : q.right[i]? = some x) (hxt : x.term = false) (ks : List Tree) (hks : vts g ks (q.right.drop (i + 1))) (c : Int) (hfc : (fol.getD q.left.toNat [])[c.toNat]? = some true) :
    (yields ks = [] → NodF inn fol x c) ∧ ∀ c' w', yields ks = c' :: w' → NodF inn fol x c' := by
  have hfk := first_kids hc hok ks (q.right.drop (i + 1)) (List.replicate m false) (by simp) (fun s hs => hok q hm s (List.mem_of_mem_drop hs)) hks
  refine ⟨fun h => ⟨hf.reach q hm hin x (List.mem_of_getElem? hx) hxt, hf.pass q hm hin i x hx hxt (hfk.1 h) _ hfc⟩, fun c' w' h => ?_⟩
  obtain ⟨h1, h2, h3⟩ := hfk.2 _ _ h
  exact ⟨hf.reach q hm hin x (List.mem_of_getElem? hx) hxt, hf.row q hm hin i x hx hxt _ h3⟩

mutual
theorem good2_law {g : Gram} {m : Nat} {e inn e2 inn2 : List Bool} {f fol f2 fol2 pre : List (List Bool)} {w : List Int} (hc : ClosedS g m e f) (hc2 : ClosedS g m e2 f2) (hok : ∀ q ∈ g.rules, ∀ s ∈ q.right, SymIn m g s) (hlo : ∀ q ∈ g.rules, 0 ≤ q.left ∧ q.left < g.nons) (hf : ClosedFol g m e f inn fol) (hf2 : ClosedFol g m e2 f2 inn2 fol2)
    (hp : ∀ (i : Nat) (q : Rule), g.rules[i]? = some q → pre[i]? = some (predRow m e2 f2 fol2 q)) :
    ∀ (t : Tree) (s : Sym) (at_ : Nat) (c : Int) (rest : List Int), vt g t s → (s.term = false → NodF inn fol s c ∧ NodF inn2 fol2 s c) → w.drop at_ = yieldT t ++ c :: rest → 0 ≤ c → goodP g m fol pre w t at_
  | ⟨r, t, ks⟩, s, at_, c, rest, h, hs, hw, hc0 => by
    unfold goodP
    unfold vt at h
    split at h
    · exact .inl (by omega)
    · rename_i hst
      have hst : s.term = false := by simpa using hst
      obtain ⟨⟨hin, hfc⟩, hin2, hfc2⟩ := hs hst
      obtain ⟨_, hr, q, hq, hql, hks⟩ := h
      have hm := List.mem_of_getElem? hq
      have hy : yieldT ⟨r, t, ks⟩ = yields ks := by unfold yieldT; rw [if_neg (by omega)]
      rw [hy] at hw
      have hl := hlo q hm
      have hlt : q.left.toNat < fol.length := by rw [hf.len]; omega
      obtain ⟨a, ha⟩ : ∃ a, fol[q.left.toNat]? = some a := ⟨_, List.getElem?_eq_getElem hlt⟩
      have hga : fol.getD q.left.toNat [] = a := by rw [List.getD_eq_getElem?_getD, ha]; rfl
      have hal := hf.rows _ _ ha
      have hlt2 : q.left.toNat < fol2.length := by rw [hf2.len]; omega
      obtain ⟨a2, ha2⟩ : ∃ a, fol2[q.left.toNat]? = some a := ⟨_, List.getElem?_eq_getElem hlt2⟩
      have hga2 : fol2.getD q.left.toNat [] = a2 := by rw [List.getD_eq_getElem?_getD, ha2]; rfl
      have hal2 := hf2.rows _ _ ha2
      rw [← hql, hga] at hfc
      rw [← hql, hga2] at hfc2
      have hfk := first_kids hc2 hok ks q.right (List.replicate m false) (by simp) (hok q hm) hks
      have hce : w[at_ + (yields ks).length]? = some c := by
        have h1 : (w.drop at_)[(yields ks).length]? = some c := by rw [hw]; simp
        simpa using h1
      refine .inr ⟨?_, goods2_law hc hc2 hok hlo hf hf2 hp q hm (by rw [hql]; exact hin) (by rw [hql]; exact hin2) 0 ks at_ c rest (by simpa using hks) (by rw [hga]; exact hfc) (by rw [hga2]; exact hfc2) hw hc0⟩
      cases hyk : yields ks with
      | nil =>
        rw [hyk] at hw hce
        have hem := hfk.1 hyk
        have hca : w[at_]? = some c := by simpa using hce
        refine ⟨q, a, predRow m e2 f2 fol2 q, c, c, hq, ha, hp _ _ hq, by simpa using hce, hca, hc0, hc0, hfc, ?_, hal, predRow_len _ _ _ _ _⟩
        unfold predRow
        rw [if_pos hem, hga2]
        exact orRow_right _ _ _ (by simp [ofFrom_len, hal2]) hfc2
      | cons c' w' =>
        obtain ⟨h1, h2, h3⟩ := hfk.2 _ _ hyk
        rw [hyk] at hw hce
        have hca : w[at_]? = some c' := by
          have h4 : (w.drop at_)[0]? = some c' := by rw [hw]; simp
          simpa using h4
        refine ⟨q, a, predRow m e2 f2 fol2 q, c, c', hq, ha, hp _ _ hq, hce, hca, hc0, h1, hfc, ?_, hal, predRow_len _ _ _ _ _⟩
        have h4 : ((ofFrom e2 f2 (List.replicate m false) q.right).1 ++ [false])[c'.toNat]? = some true := by
          rw [List.getElem?_append_left (List.getElem?_eq_some_iff.1 h3).1]; exact h3
        unfold predRow
        split
        · exact orRow_left _ _ _ h4
        · exact h4
theorem goods2_law {g : Gram} {m : Nat} {e inn e2 inn2 : List Bool} {f fol f2 fol2 pre : List (List Bool)} {w : List Int} (hc : ClosedS g m e f) (hc2 : ClosedS g m e2 f2) (hok : ∀ q ∈ g.rules, ∀ s ∈ q.right, SymIn m g s) (hlo : ∀ q ∈ g.rules, 0 ≤ q.left ∧ q.left < g.nons) (hf : ClosedFol g m e f inn fol) (hf2 : ClosedFol g m e2 f2 inn2 fol2)
    (hp : ∀ (i : Nat) (q : Rule), g.rules[i]? = some q → pre[i]? = some (predRow m e2 f2 fol2 q)) (q : Rule) (hm : q ∈ g.rules) (hin : inn.getD q.left.toNat false = true) (hin2 : inn2.getD q.left.toNat false = true) :
    ∀ (i : Nat) (ks : List Tree) (at_ : Nat) (c : Int) (rest : List Int), vts g ks (q.right.drop i) → (fol.getD q.left.toNat [])[c.toNat]? = some true → (fol2.getD q.left.toNat [])[c.toNat]? = some true → w.drop at_ = yields ks ++ c :: rest → 0 ≤ c → goodPs g m fol pre w ks at_
  | _, [], at_, c, rest, _, _, _, _, _ => by simp [goodPs]
  | i, k :: ks, at_, c, rest, h, hfc, hfc2, hw, hc0 => by
    unfold goodPs
    rcases Nat.lt_or_ge i q.right.length with hlt | hge
    · obtain ⟨x, hx⟩ : ∃ x, q.right[i]? = some x := ⟨_, List.getElem?_eq_getElem hlt⟩
      have hd : q.right.drop i = x :: q.right.drop (i + 1) := by
        obtain ⟨hlt, rfl⟩ := List.getElem?_eq_some_iff.1 hx
        exact List.drop_eq_getElem_cons hlt
      rw [hd] at h
      unfold vts at h
      have hw2 : w.drop at_ = yieldT k ++ (yields ks ++ c :: rest) := by rw [hw, yields, List.append_assoc]
      have hw3 : w.drop (at_ + (yieldT k).length) = yields ks ++ c :: rest := by
        rw [← List.drop_drop, hw2]; simp
      have hfk := first_kids hc hok ks (q.right.drop (i + 1)) (List.replicate m false) (by simp) (fun s hs => hok q hm s (List.mem_of_mem_drop hs)) h.2
      refine ⟨?_, goods2_law hc hc2 hok hlo hf hf2 hp q hm hin hin2 (i + 1) ks _ c rest h.2 hfc hfc2 hw3 hc0⟩
      cases hyk : yields ks with
      | nil =>
        rw [hyk] at hw2
        exact good2_law hc hc2 hok hlo hf hf2 hp k x at_ c rest h.1 (fun hxt => ⟨(kid_next hc hok hf q hm hin i x hx hxt ks h.2 c hfc).1 hyk, (kid_next hc2 hok hf2 q hm hin2 i x hx hxt ks h.2 c hfc2).1 hyk⟩) hw2 hc0
      | cons c' w' =>
        obtain ⟨h1, h2, h3⟩ := hfk.2 _ _ hyk
        rw [hyk] at hw2
        exact good2_law hc hc2 hok hlo hf hf2 hp k x at_ c' (w' ++ c :: rest) h.1 (fun hxt => ⟨(kid_next hc hok hf q hm hin i x hx hxt ks h.2 c hfc).2 _ _ hyk, (kid_next hc2 hok hf2 q hm hin2 i x hx hxt ks h.2 c hfc2).2 _ _ hyk⟩) (by rw [hw2]; rfl) h1
    · rw [List.drop_of_length_le hge] at h
      simp [vts] at h
end
end Go.Proofs.Ytlbhaegdcpacpaa
