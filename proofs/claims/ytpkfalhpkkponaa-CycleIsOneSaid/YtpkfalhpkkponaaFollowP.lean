/- The plain law of FirstFollows: where the sets are closed under the rules, every node of a tree of Start has its next terminal in Follow and its first one in Predict. No program is named here. -/
import Derived.Test.YtpkfalhpkkponaaFirstP
namespace Go.Proofs.Ytpkfalhpkkponaa
open Go.RowKit
set_option linter.unusedVariables false

/-- Follow sets that are closed under the rules of the nonterminals that are reached. -/
structure ClosedFol (g : Gram) (m : Nat) (e : List Bool) (f : List (List Bool)) (inn : List Bool) (fol : List (List Bool)) : Prop where
  len : fol.length = g.nons.toNat
  rows : ∀ (n : Nat) (row : List Bool), fol[n]? = some row → row.length = m + 1
  startIn : inn.getD g.start.toNat false = true
  start : (fol.getD g.start.toNat [])[m]? = some true
  reach : ∀ q ∈ g.rules, inn.getD q.left.toNat false = true → ∀ x ∈ q.right, x.term = false → inn.getD x.n.toNat false = true
  row : ∀ q ∈ g.rules, inn.getD q.left.toNat false = true → ∀ (i : Nat) (x : Sym), q.right[i]? = some x → x.term = false → ∀ j : Nat, (ofFrom e f (List.replicate m false) (q.right.drop (i + 1))).1[j]? = some true → (fol.getD x.n.toNat [])[j]? = some true
  pass : ∀ q ∈ g.rules, inn.getD q.left.toNat false = true → ∀ (i : Nat) (x : Sym), q.right[i]? = some x → x.term = false → (ofFrom e f (List.replicate m false) (q.right.drop (i + 1))).2 = true → ∀ j : Nat, (fol.getD q.left.toNat [])[j]? = some true → (fol.getD x.n.toNat [])[j]? = some true
/-- A rule's row of Predict. -/
def predRow (m : Nat) (e : List Bool) (f : List (List Bool)) (fol : List (List Bool)) (q : Rule) : List Bool :=
  if (ofFrom e f (List.replicate m false) q.right).2 then orRow ((ofFrom e f (List.replicate m false) q.right).1 ++ [false]) (fol.getD q.left.toNat []) else (ofFrom e f (List.replicate m false) q.right).1 ++ [false]
theorem predRow_len (m : Nat) (e : List Bool) (f : List (List Bool)) (fol : List (List Bool)) (q : Rule) : (predRow m e f fol q).length = m + 1 := by
  unfold predRow
  split <;> simp [orRow_len, ofFrom_len]
mutual
/-- What the law's closure tests of a node, and of those below it. -/
def goodP (g : Gram) (m : Nat) (fol pre : List (List Bool)) (w : List Int) : Tree → Nat → Prop
  | ⟨r, _, ks⟩, at_ => r < 0 ∨ ((∃ (q : Rule) (a b : List Bool) (ce ca : Int), g.rules[r.toNat]? = some q ∧ fol[q.left.toNat]? = some a ∧ pre[r.toNat]? = some b ∧ w[at_ + (yields ks).length]? = some ce ∧ w[at_]? = some ca ∧ 0 ≤ ce ∧ 0 ≤ ca ∧ a[ce.toNat]? = some true ∧ b[ca.toNat]? = some true ∧ a.length = m + 1 ∧ b.length = m + 1) ∧ goodPs g m fol pre w ks at_)
def goodPs (g : Gram) (m : Nat) (fol pre : List (List Bool)) (w : List Int) : List Tree → Nat → Prop
  | [], _ => True
  | k :: ks, at_ => goodP g m fol pre w k at_ ∧ goodPs g m fol pre w ks (at_ + (yieldT k).length)
end

mutual
theorem good_law {g : Gram} {m : Nat} {e inn : List Bool} {f fol pre : List (List Bool)} {w : List Int} (hc : ClosedS g m e f) (hok : ∀ q ∈ g.rules, ∀ s ∈ q.right, SymIn m g s) (hlo : ∀ q ∈ g.rules, 0 ≤ q.left ∧ q.left < g.nons) (hf : ClosedFol g m e f inn fol)
    (hp : ∀ (i : Nat) (q : Rule), g.rules[i]? = some q → pre[i]? = some (predRow m e f fol q)) :
    ∀ (t : Tree) (s : Sym) (at_ : Nat) (c : Int) (rest : List Int), vt g t s → (s.term = false → inn.getD s.n.toNat false = true ∧ (fol.getD s.n.toNat [])[c.toNat]? = some true) → w.drop at_ = yieldT t ++ c :: rest → 0 ≤ c → goodP g m fol pre w t at_
  | ⟨r, t, ks⟩, s, at_, c, rest, h, hs, hw, hc0 => by
    unfold goodP
    unfold vt at h
    split at h
    · exact .inl (by omega)
    · rename_i hst
      have hst : s.term = false := by simpa using hst
      obtain ⟨hin, hfc⟩ := hs hst
      obtain ⟨_, hr, q, hq, hql, hks⟩ := h
      have hm := List.mem_of_getElem? hq
      have hy : yieldT ⟨r, t, ks⟩ = yields ks := by unfold yieldT; rw [if_neg (by omega)]
      rw [hy] at hw
      have hl := hlo q hm
      have hlt : q.left.toNat < fol.length := by rw [hf.len]; omega
      obtain ⟨a, ha⟩ : ∃ a, fol[q.left.toNat]? = some a := ⟨_, List.getElem?_eq_getElem hlt⟩
      have hga : fol.getD q.left.toNat [] = a := by rw [List.getD_eq_getElem?_getD, ha]; rfl
      have hal := hf.rows _ _ ha
      rw [← hql, hga] at hfc
      have hfk := first_kids hc hok ks q.right (List.replicate m false) (by simp) (hok q hm) hks
      have hce : w[at_ + (yields ks).length]? = some c := by
        have h1 : (w.drop at_)[(yields ks).length]? = some c := by rw [hw]; simp
        simpa using h1
      refine .inr ⟨?_, goods_law hc hok hlo hf hp q hm (by rw [hql]; exact hin) 0 ks at_ c rest (by simpa using hks) (by rw [hga]; exact hfc) hw hc0⟩
      cases hyk : yields ks with
      | nil =>
        rw [hyk] at hw hce
        have hem := hfk.1 hyk
        have hca : w[at_]? = some c := by simpa using hce
        refine ⟨q, a, predRow m e f fol q, c, c, hq, ha, hp _ _ hq, by simpa using hce, hca, hc0, hc0, hfc, ?_, hal, predRow_len _ _ _ _ _⟩
        unfold predRow
        rw [if_pos hem, hga]
        exact orRow_right _ _ _ (by simp [ofFrom_len, hal]) hfc
      | cons c' w' =>
        obtain ⟨h1, h2, h3⟩ := hfk.2 _ _ hyk
        rw [hyk] at hw hce
        have hca : w[at_]? = some c' := by
          have h4 : (w.drop at_)[0]? = some c' := by rw [hw]; simp
          simpa using h4
        refine ⟨q, a, predRow m e f fol q, c, c', hq, ha, hp _ _ hq, hce, hca, hc0, h1, hfc, ?_, hal, predRow_len _ _ _ _ _⟩
        have h4 : ((ofFrom e f (List.replicate m false) q.right).1 ++ [false])[c'.toNat]? = some true := by
          rw [List.getElem?_append_left (List.getElem?_eq_some_iff.1 h3).1]; exact h3
        unfold predRow
        split
        · exact orRow_left _ _ _ h4
        · exact h4
theorem goods_law {g : Gram} {m : Nat} {e inn : List Bool} {f fol pre : List (List Bool)} {w : List Int} (hc : ClosedS g m e f) (hok : ∀ q ∈ g.rules, ∀ s ∈ q.right, SymIn m g s) (hlo : ∀ q ∈ g.rules, 0 ≤ q.left ∧ q.left < g.nons) (hf : ClosedFol g m e f inn fol)
    (hp : ∀ (i : Nat) (q : Rule), g.rules[i]? = some q → pre[i]? = some (predRow m e f fol q)) (q : Rule) (hm : q ∈ g.rules) (hin : inn.getD q.left.toNat false = true) :
    ∀ (i : Nat) (ks : List Tree) (at_ : Nat) (c : Int) (rest : List Int), vts g ks (q.right.drop i) → (fol.getD q.left.toNat [])[c.toNat]? = some true → w.drop at_ = yields ks ++ c :: rest → 0 ≤ c → goodPs g m fol pre w ks at_
  | _, [], at_, c, rest, _, _, _, _ => by simp [goodPs]
  | i, k :: ks, at_, c, rest, h, hfc, hw, hc0 => by
    unfold goodPs
    rcases Nat.lt_or_ge i q.right.length with hlt | hge
    · obtain ⟨x, hx⟩ : ∃ x, q.right[i]? = some x := ⟨_, List.getElem?_eq_getElem hlt⟩
      have hd : q.right.drop i = x :: q.right.drop (i + 1) := by
        obtain ⟨hlt, rfl⟩ := List.getElem?_eq_some_iff.1 hx
        exact List.drop_eq_getElem_cons hlt
      rw [hd] at h
      unfold vts at h
      have hw2 : w.drop at_ = yieldT k ++ (yields ks ++ c :: rest) := by rw [hw, yields, List.append_assoc]
      have hw3 : w.drop (at_ + (yieldT k).length) = yields ks ++ c :: rest := by
        rw [← List.drop_drop, hw2]; simp
      have hfk := first_kids hc hok ks (q.right.drop (i + 1)) (List.replicate m false) (by simp) (fun s hs => hok q hm s (List.mem_of_mem_drop hs)) h.2
      refine ⟨?_, goods_law hc hok hlo hf hp q hm hin (i + 1) ks _ c rest h.2 hfc hw3 hc0⟩
      cases hyk : yields ks with
      | nil =>
        rw [hyk] at hw2
        exact good_law hc hok hlo hf hp k x at_ c rest h.1 (fun hxt => ⟨hf.reach q hm hin x (List.mem_of_getElem? hx) hxt, hf.pass q hm hin i x hx hxt (hfk.1 hyk) _ hfc⟩) hw2 hc0
      | cons c' w' =>
        obtain ⟨h1, h2, h3⟩ := hfk.2 _ _ hyk
        rw [hyk] at hw2
        exact good_law hc hok hlo hf hp k x at_ c' (w' ++ c :: rest) h.1 (fun hxt => ⟨hf.reach q hm hin x (List.mem_of_getElem? hx) hxt, hf.row q hm hin i x hx hxt _ h3⟩) (by rw [hw2]; rfl) h1
    · rw [List.drop_of_length_le hge] at h
      simp [vts] at h
end
end Go.Proofs.Ytpkfalhpkkponaa
