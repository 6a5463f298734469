/- What first.Sets.Follow computes: rounds over the places of the rules until nothing turns. No program is named here. -/
import Derived.Test.YtpkfalhpkkponaaFollowP
import Derived.Test.YtpkfalhpkkponaaFirstM
namespace Go.Proofs.Ytpkfalhpkkponaa
open Go.RowKit
set_option linter.unusedVariables false

def falsesF (f : List (List Bool)) : Nat := (f.map fun r => r.count false).sum
structure ShapeF (m n : Nat) (f : List (List Bool)) : Prop where
  len : f.length = n
  rows : ∀ (i : Nat) (row : List Bool), f[i]? = some row → row.length = m
theorem orF_falses {f : List (List Bool)} {i : Nat} {r fr : List Bool} (h : f[i]? = some r) : falsesF (f.set i (orRow r fr)) ≤ falsesF f ∧ (orRow r fr ≠ r → falsesF (f.set i (orRow r fr)) < falsesF f) := by
  have h1 := orRow_cnt r fr
  have h2 := sum_set (f.map fun r => r.count false) i (r.count false) ((orRow r fr).count false) (by simp [h])
  unfold falsesF
  rw [List.map_set]
  exact ⟨by omega, fun hne => by have := h1.2 hne; omega⟩
theorem ShapeF.set {m n : Nat} {f : List (List Bool)} (h : ShapeF m n f) {i : Nat} {r fr : List Bool} (hi : f[i]? = some r) : ShapeF m n (f.set i (orRow r fr)) := by
  refine ⟨by simp [h.len], fun j row hj => ?_⟩
  rw [List.getElem?_set] at hj
  split at hj
  · split at hj
    · injection hj with hj
      subst hj
      rw [orRow_len]; exact h.rows _ _ hi
    · cases hj
  · exact h.rows _ _ hj

section
variable (m : Nat) (e : List Bool) (f : List (List Bool)) (inn : List Bool)
/-- Nothing is to be added for a place of a rule. -/
def ClosedAt (q : Rule) (i : Nat) (x : Sym) (fol : List (List Bool)) : Prop :=
  x.term = false → orRow (fol.getD x.n.toNat []) (ofFrom e f (List.replicate m false) (q.right.drop (i + 1))).1 = fol.getD x.n.toNat [] ∧
    ((ofFrom e f (List.replicate m false) (q.right.drop (i + 1))).2 = true → orRow (fol.getD x.n.toNat []) (fol.getD q.left.toNat []) = fol.getD x.n.toNat [])
def RuleC (q : Rule) (fol : List (List Bool)) : Prop := inn.getD q.left.toNat false = true → ∀ (i : Nat) (x : Sym), q.right[i]? = some x → ClosedAt m e f q i x fol
/-- The state of a round: fs the table at its start, j rules are done, and of the next one i places. -/
def FoInv (rs : List Rule) (fs : List (List Bool)) (j i : Nat) (fol : List (List Bool)) (b : Bool) : Prop :=
  (b = false → fol = fs ∧ (∀ (k : Nat) (q : Rule), k < j → rs[k]? = some q → RuleC m e f inn q fs) ∧ ∀ q : Rule, rs[j]? = some q → ∀ (k : Nat) (x : Sym), k < i → q.right[k]? = some x → ClosedAt m e f q k x fs) ∧ (b = true → falsesF fol < falsesF fs)
/-- What is true in fol is true in F. -/
def LeF (F fol : List (List Bool)) : Prop := ∀ (i : Nat) (row : List Bool), fol[i]? = some row → ∀ j : Nat, row[j]? = some true → (F.getD i [])[j]? = some true
end
section
variable {m : Nat} {e : List Bool} {f : List (List Bool)} {inn : List Bool} {rs : List Rule} {fs fol : List (List Bool)} {j i : Nat} {b : Bool} {q : Rule}
theorem FoInv.le (h : FoInv m e f inn rs fs j i fol b) : falsesF fol ≤ falsesF fs := by
  cases b
  · rw [(h.1 rfl).1]; exact Nat.le_refl _
  · exact Nat.le_of_lt (h.2 rfl)
theorem FoInv.start (fs : List (List Bool)) : FoInv m e f inn rs fs 0 0 fs false := ⟨fun _ => ⟨rfl, fun k _ hk => by omega, fun _ _ k _ hk => by omega⟩, fun h => by cases h⟩
/-- A place with a terminal. -/
theorem FoInv.skip (h : FoInv m e f inn rs fs j i fol b) {x : Sym} (hq : rs[j]? = some q) (hx : q.right[i]? = some x) (ht : x.term = true) : FoInv m e f inn rs fs j (i + 1) fol b := by
  refine ⟨fun hb => ⟨(h.1 hb).1, (h.1 hb).2.1, fun q' hq' k y hk hy => ?_⟩, h.2⟩
  rcases Nat.lt_or_ge k i with hlt | hge
  · exact (h.1 hb).2.2 q' hq' k y hlt hy
  · have e1 : k = i := by omega
    subst e1
    rw [hq] at hq'
    injection hq' with hq'
    subst hq'
    rw [hx] at hy
    injection hy with hy
    subst hy
    intro hf
    rw [ht] at hf
    cases hf
/-- A place with a nonterminal: one step or two. r: the row; c1, c2: whether the steps turn it. -/
theorem FoInv.turn (h : FoInv m e f inn rs fs j i fol b) {x : Sym} {r fr : List Bool} {c1 c2 b' em : Bool} {fol' : List (List Bool)} (hq : rs[j]? = some q) (hx : q.right[i]? = some x) (hr : fol[x.n.toNat]? = some r)
    (ho : ofFrom e f (List.replicate m false) (q.right.drop (i + 1)) = (fr, em)) (h1 : c1 = decide (orRow r fr ≠ r))
    (h2 : em = false → c2 = false ∧ fol' = fol.set x.n.toNat (orRow r fr)) (h3 : em = true → ∃ lr, (fol.set x.n.toNat (orRow r fr)).getD q.left.toNat [] = lr ∧ c2 = decide (orRow (orRow r fr) lr ≠ orRow r fr) ∧ fol' = fol.set x.n.toNat (orRow (orRow r fr) lr)) (hb' : b' = (c2 || (c1 || b))) :
    FoInv m e f inn rs fs j (i + 1) fol' b' := by
  have hf1 := orF_falses (fr := fr) hr
  have hlt := (List.getElem?_eq_some_iff.1 hr).1
  have hgd : fol.getD x.n.toNat [] = r := by rw [List.getD_eq_getElem?_getD, hr]; rfl
  have hf2 : falsesF fol' ≤ falsesF fol ∧ (c1 = true ∨ c2 = true → falsesF fol' < falsesF fol) := by
    cases em
    · obtain ⟨g1, g2⟩ := h2 rfl
      rw [g2, g1]
      refine ⟨hf1.1, fun hc => hf1.2 ?_⟩
      rcases hc with hc | hc
      · rw [hc] at h1; simpa using h1.symm
      · cases hc
    · obtain ⟨lr, g1, g2, g3⟩ := h3 rfl
      have hs : (fol.set x.n.toNat (orRow r fr))[x.n.toNat]? = some (orRow r fr) := by rw [List.getElem?_set]; simp [hlt]
      have hf3 := orF_falses (fr := lr) hs
      rw [List.set_set] at hf3
      rw [g3]
      refine ⟨Nat.le_trans hf3.1 hf1.1, fun hc => ?_⟩
      rcases hc with hc | hc
      · rw [hc] at h1
        have h5 : orRow r fr ≠ r := by simpa using h1.symm
        have := hf1.2 h5; have := hf3.1; omega
      · rw [hc] at g2
        have h5 : orRow (orRow r fr) lr ≠ orRow r fr := by simpa using g2.symm
        have := hf3.2 h5; have := hf1.1; omega
  refine ⟨fun hb0 => ?_, fun hb1 => ?_⟩
  · rw [hb'] at hb0
    simp only [Bool.or_eq_false_iff] at hb0
    obtain ⟨k2, k1, kb⟩ := hb0
    have r1 : orRow r fr = r := by rw [k1] at h1; simpa using h1.symm
    obtain ⟨s1, s2, s3⟩ := h.1 kb
    have hfol : fol' = fol := by
      cases em
      · rw [(h2 rfl).2, r1]; exact set_id hr
      · obtain ⟨lr, g1, g2, g3⟩ := h3 rfl
        have r2 : orRow (orRow r fr) lr = orRow r fr := by rw [k2] at g2; simpa using g2.symm
        rw [g3, r2, r1]; exact set_id hr
    refine ⟨hfol.trans s1, s2, fun q' hq' k y hk hy => ?_⟩
    rcases Nat.lt_or_ge k i with hlt2 | hge
    · exact s3 q' hq' k y hlt2 hy
    · have e1 : k = i := by omega
      subst e1
      rw [hq] at hq'
      injection hq' with hq'
      subst hq'
      rw [hx] at hy
      injection hy with hy
      subst hy
      intro _
      rw [ho, ← s1, hgd]
      refine ⟨r1, fun hem => ?_⟩
      obtain ⟨lr, g1, g2, g3⟩ := h3 hem
      rw [k2] at g2
      have r2 : orRow (orRow r fr) lr = orRow r fr := by simpa using g2.symm
      rw [r1] at r2 g1
      rw [set_id hr] at g1
      rw [g1]
      exact r2
  · rw [hb'] at hb1
    simp only [Bool.or_eq_true] at hb1
    have hle := h.le
    rcases hb1 with k2 | k1 | kb
    · have := hf2.2 (.inr k2); omega
    · have := hf2.2 (.inl k1); omega
    · have := h.2 kb; have := hf2.1; omega
/-- The next rule. -/
theorem FoInv.next (h : FoInv m e f inn rs fs j i fol b) (hq : rs[j]? = some q) (hi : q.right.length ≤ i ∨ inn.getD q.left.toNat false = false) : FoInv m e f inn rs fs (j + 1) 0 fol b := by
  refine ⟨fun hb => ⟨(h.1 hb).1, fun k q' hk hq' => ?_, fun _ _ k _ hk => by omega⟩, h.2⟩
  rcases Nat.lt_or_ge k j with hlt | hge
  · exact (h.1 hb).2.1 k q' hlt hq'
  · have e1 : k = j := by omega
    subst e1
    rw [hq] at hq'
    injection hq' with hq'
    subst hq'
    intro hin k y hy
    rcases hi with hi | hi
    · exact (h.1 hb).2.2 q hq k y (by have := (List.getElem?_eq_some_iff.1 hy).1; omega) hy
    · rw [hi] at hin; cases hin
theorem FoInv.zero (h : FoInv m e f inn rs fs j i fol b) : FoInv m e f inn rs fs j 0 fol b :=
  ⟨fun hb => ⟨(h.1 hb).1, (h.1 hb).2.1, fun _ _ k _ hk => by omega⟩, h.2⟩
end

theorem orRow_or : ∀ (a b : List Bool) (j : Nat), (orRow a b)[j]? = some true → a[j]? = some true ∨ b[j]? = some true
  | [], _, _, h => by simp [orRow] at h
  | t :: ts, [], j, h => .inl (by simpa [orRow] using h)
  | t :: ts, u :: us, 0, h => by simp [orRow] at h; rcases h with h | h <;> simp [h]
  | t :: ts, u :: us, j + 1, h => by simpa using orRow_or ts us j (by simpa [orRow] using h)
theorem LeF.set {F fol : List (List Bool)} (h : LeF F fol) {i : Nat} {r fr : List Bool} (hr : fol[i]? = some r) (hfr : ∀ j : Nat, fr[j]? = some true → (F.getD i [])[j]? = some true) : LeF F (fol.set i (orRow r fr)) := by
  intro k row hk j hj
  rw [List.getElem?_set] at hk
  split at hk
  · rename_i e1
    subst e1
    split at hk
    · injection hk with hk
      subst hk
      rcases orRow_or _ _ _ hj with h1 | h1
      · exact h i r hr j h1
      · exact hfr j h1
    · cases hk
  · exact h k row hk j hj
/-- A closed table. -/
theorem closed_fol {g : Gram} {m : Nat} {e : List Bool} {f : List (List Bool)} {inn : List Bool} {fol : List (List Bool)} (hn : fol.length = g.nons.toNat) (hsh : ∀ (n : Nat) (row : List Bool), fol[n]? = some row → row.length = m + 1) (hs : inn.getD g.start.toNat false = true) (hst : (fol.getD g.start.toNat [])[m]? = some true)
    (hre : ∀ q ∈ g.rules, inn.getD q.left.toNat false = true → ∀ x ∈ q.right, x.term = false → inn.getD x.n.toNat false = true) (hl : ∀ q ∈ g.rules, q.left.toNat < fol.length ∧ ∀ x ∈ q.right, x.term = false → x.n.toNat < fol.length) (hc : ∀ q ∈ g.rules, RuleC m e f inn q fol) : ClosedFol g m e f inn fol := by
  have hrow : ∀ n : Nat, n < fol.length → (fol.getD n []).length = m + 1 := fun n h => by
    rw [List.getD_eq_getElem?_getD, List.getElem?_eq_getElem h]
    exact hsh n _ (List.getElem?_eq_getElem h)
  have key : ∀ (a fr : List Bool) (j : Nat), orRow a fr = a → fr.length ≤ a.length → fr[j]? = some true → a[j]? = some true := by
    intro a
    induction a with
    | nil => intro fr j _ hl hj; cases fr with
      | nil => simp at hj
      | cons u us => simp at hl
    | cons t ts ih =>
      intro fr j he hl hj
      cases fr with
      | nil => simp at hj
      | cons u us =>
        simp only [orRow, List.cons.injEq] at he
        cases j with
        | zero => simp at hj; subst hj; simpa using he.1
        | succ j => simp at hj ⊢; exact ih us j he.2 (by simpa using hl) hj
  refine ⟨hn, hsh, hs, hst, hre, fun q hq hin i x hx ht j hj => ?_, fun q hq hin i x hx ht hem j hj => ?_⟩
  · exact key _ _ j ((hc q hq hin i x hx) ht).1 (by rw [ofFrom_len, List.length_replicate, hrow _ ((hl q hq).2 x (List.mem_of_getElem? hx) ht)]; omega) hj
  · exact key _ _ j (((hc q hq hin i x hx) ht).2 hem) (by rw [hrow _ (hl q hq).1, hrow _ ((hl q hq).2 x (List.mem_of_getElem? hx) ht)]; exact Nat.le_refl _) hj
end Go.Proofs.Ytpkfalhpkkponaa
