/- The plain law of FirstWords: in sets that are closed under the rules, the word of a tree begins with a terminal of First of its root, and an empty word's root is in Null. No program is named here. -/
import Derived.Test.YtehndgmgljlioaaDoorData
namespace Go.Proofs.YtehndgmgljlioaaDoor
open Go.RowKit
set_option linter.unusedVariables false

/-- A row or another one. -/
def orRow : List Bool → List Bool → List Bool
  | [], _ => []
  | t :: ts, [] => t :: ts
  | t :: ts, f :: fs => (t || f) :: orRow ts fs
theorem orRow_len : ∀ (a b : List Bool), (orRow a b).length = a.length
  | [], _ => rfl
  | _ :: _, [] => rfl
  | _ :: ts, _ :: fs => by simp [orRow, orRow_len ts fs]
theorem orRow_left : ∀ (a b : List Bool) (j : Nat), a[j]? = some true → (orRow a b)[j]? = some true
  | [], _, _, h => by simp at h
  | t :: ts, [], j, h => by simpa [orRow] using h
  | t :: ts, f :: fs, 0, h => by simp at h; simp [orRow, h]
  | t :: ts, f :: fs, j + 1, h => by
    simp only [orRow, List.getElem?_cons_succ]
    exact orRow_left ts fs j (by simpa using h)
theorem orRow_right : ∀ (a b : List Bool) (j : Nat), a.length = b.length → b[j]? = some true → (orRow a b)[j]? = some true
  | [], [], _, _, h => by simp at h
  | [], _ :: _, _, hl, h => by simp at hl
  | t :: ts, [], j, hl, h => by simp at hl
  | t :: ts, f :: fs, 0, hl, h => by simp at h; simp [orRow, h]
  | t :: ts, f :: fs, j + 1, hl, h => by
    simp only [orRow, List.getElem?_cons_succ]
    exact orRow_right ts fs j (by simpa using hl) (by simpa using h)

/-- What first.Sets.Of computes, from a row on. -/
def ofFrom (e : List Bool) (f : List (List Bool)) : List Bool → List Sym → List Bool × Bool
  | out, [] => (out, true)
  | out, x :: xs => if x.term then (out.set x.n.toNat true, false) else if e.getD x.n.toNat false then ofFrom e f (orRow out (f.getD x.n.toNat [])) xs else (orRow out (f.getD x.n.toNat []), false)
theorem ofFrom_len (e : List Bool) (f : List (List Bool)) : ∀ (l : List Sym) (out : List Bool), (ofFrom e f out l).1.length = out.length
  | [], out => rfl
  | x :: xs, out => by
    unfold ofFrom
    split
    · simp
    · split
      · rw [ofFrom_len e f xs, orRow_len]
      · rw [orRow_len]
theorem ofFrom_mono (e : List Bool) (f : List (List Bool)) : ∀ (l : List Sym) (out : List Bool) (j : Nat), out[j]? = some true → (ofFrom e f out l).1[j]? = some true
  | [], out, j, h => h
  | x :: xs, out, j, h => by
    unfold ofFrom
    split
    · have hj := (List.getElem?_eq_some_iff.1 h).1
      simp only [List.getElem?_set]
      split
      · simp [hj]; omega
      · exact h
    · split
      · exact ofFrom_mono e f xs _ j (orRow_left _ _ _ h)
      · exact orRow_left _ _ _ h

mutual
/-- A tree of the grammar with a symbol at its root. -/
def vt (g : Gram) : Tree → Sym → Prop
  | ⟨r, t, ks⟩, s => if s.term then r = -1 ∧ t = s.n ∧ ks = [] else t = 0 ∧ 0 ≤ r ∧ ∃ q : Rule, g.rules[r.toNat]? = some q ∧ q.left = s.n ∧ vts g ks q.right
def vts (g : Gram) : List Tree → List Sym → Prop
  | [], [] => True
  | k :: ks, s :: ss => vt g k s ∧ vts g ks ss
  | [], _ :: _ => False
  | _ :: _, [] => False
end
mutual
/-- The word of a tree. -/
def yieldT : Tree → List Int
  | ⟨r, t, ks⟩ => if r < 0 then [t] else yields ks
def yields : List Tree → List Int
  | [] => []
  | k :: ks => yieldT k ++ yields ks
end

def InF (m : Nat) (f : List (List Bool)) (n : Nat) (c : Int) : Prop := 0 ≤ c ∧ c < (m : Int) ∧ (f.getD n [])[c.toNat]? = some true
/-- The sets are closed under the rules. -/
structure ClosedS (g : Gram) (m : Nat) (e : List Bool) (f : List (List Bool)) : Prop where
  rows : ∀ n : Nat, n < g.nons.toNat → (f.getD n []).length = m
  first : ∀ q ∈ g.rules, ∀ j : Nat, (ofFrom e f (List.replicate m false) q.right).1[j]? = some true → (f.getD q.left.toNat [])[j]? = some true
  null : ∀ q ∈ g.rules, (ofFrom e f (List.replicate m false) q.right).2 = true → e.getD q.left.toNat false = true
def SymIn (m : Nat) (g : Gram) (s : Sym) : Prop := 0 ≤ s.n ∧ if s.term then s.n < (m : Int) else s.n < g.nons

mutual
theorem first_tree {g : Gram} {m : Nat} {e : List Bool} {f : List (List Bool)} (hc : ClosedS g m e f) (hok : ∀ q ∈ g.rules, ∀ s ∈ q.right, SymIn m g s) :
    ∀ (t : Tree) (s : Sym), vt g t s → s.term = false → (yieldT t = [] → e.getD s.n.toNat false = true) ∧ ∀ c w, yieldT t = c :: w → InF m f s.n.toNat c
  | ⟨r, t, ks⟩, s, h, hs => by
    unfold vt at h
    rw [if_neg (by simp [hs])] at h
    obtain ⟨_, hr, q, hq, hql, hks⟩ := h
    have hm := List.mem_of_getElem? hq
    have hy : yieldT ⟨r, t, ks⟩ = yields ks := by unfold yieldT; rw [if_neg (by omega)]
    have ih := first_kids hc hok ks q.right (List.replicate m false) (by simp) (hok q hm) hks
    rw [hy, ← hql]
    exact ⟨fun h0 => hc.null q hm (ih.1 h0), fun c w hw => by
      obtain ⟨h1, h2, h3⟩ := ih.2 c w hw
      exact ⟨h1, h2, hc.first q hm _ h3⟩⟩
theorem first_kids {g : Gram} {m : Nat} {e : List Bool} {f : List (List Bool)} (hc : ClosedS g m e f) (hok : ∀ q ∈ g.rules, ∀ s ∈ q.right, SymIn m g s) :
    ∀ (ks : List Tree) (ss : List Sym) (out : List Bool), out.length = m → (∀ s ∈ ss, SymIn m g s) → vts g ks ss → (yields ks = [] → (ofFrom e f out ss).2 = true) ∧ ∀ c w, yields ks = c :: w → 0 ≤ c ∧ c < (m : Int) ∧ (ofFrom e f out ss).1[c.toNat]? = some true
  | [], [], out, _, _, _ => ⟨fun _ => rfl, fun c w h => by simp [yields] at h⟩
  | [], _ :: _, out, _, _, h => by unfold vts at h; exact h.elim
  | _ :: _, [], out, _, _, h => by unfold vts at h; exact h.elim
  | k :: ks, s :: ss, out, hl, hin, h => by
    unfold vts at h
    have hs := hin s (by simp)
    obtain ⟨hs0, hs1⟩ := hs
    cases hterm : s.term
    · rw [hterm] at hs1
      simp at hs1
      have hrow := hc.rows s.n.toNat (by omega)
      have iht := first_tree hc hok k s h.1 hterm
      have ihk := first_kids hc hok ks ss (orRow out (f.getD s.n.toNat [])) (by rw [orRow_len]; exact hl) (fun x hx => hin x (by simp [hx])) h.2
      have hof : ofFrom e f out (s :: ss) = if e.getD s.n.toNat false then ofFrom e f (orRow out (f.getD s.n.toNat [])) ss else (orRow out (f.getD s.n.toNat []), false) := by
        rw [ofFrom, hterm]; simp
      rw [hof]
      show (yieldT k ++ yields ks = [] → _) ∧ ∀ c w, yieldT k ++ yields ks = c :: w → _
      refine ⟨fun h0 => ?_, fun c w hw => ?_⟩
      · obtain ⟨h1, h2⟩ := List.append_eq_nil_iff.1 h0
        rw [if_pos (iht.1 h1)]
        exact ihk.1 h2
      · cases hyk : yieldT k with
        | nil =>
          rw [hyk] at hw
          rw [if_pos (iht.1 hyk)]
          exact ihk.2 c w hw
        | cons c' w' =>
          rw [hyk] at hw
          simp at hw
          obtain ⟨rfl, _⟩ := hw
          obtain ⟨h1, h2, h3⟩ := iht.2 _ _ hyk
          have h4 := orRow_right out (f.getD s.n.toNat []) c'.toNat (by rw [hl, hrow]) h3
          refine ⟨h1, h2, ?_⟩
          split
          · exact ofFrom_mono e f ss _ _ h4
          · exact h4
    · rw [hterm] at hs1
      simp at hs1
      have hk := h.1
      cases k with
      | mk r t kk =>
        unfold vt at hk
        rw [if_pos hterm] at hk
        obtain ⟨rfl, rfl, rfl⟩ := hk
        have hy : yields (⟨-1, s.n, []⟩ :: ks) = s.n :: yields ks := by simp [yields, yieldT]
        rw [hy]
        refine ⟨fun h0 => by simp at h0, fun c w hw => ?_⟩
        simp at hw
        obtain ⟨rfl, _⟩ := hw
        refine ⟨hs0, hs1, ?_⟩
        rw [ofFrom, if_pos hterm]
        simp only [List.getElem?_set]
        rw [if_pos trivial, if_pos (by omega)]
end
end Go.Proofs.YtehndgmgljlioaaDoor
