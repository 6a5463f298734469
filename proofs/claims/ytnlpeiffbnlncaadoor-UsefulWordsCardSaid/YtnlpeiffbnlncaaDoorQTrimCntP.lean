/- Plain: the trees of a trimmed grammar are those of the grammar. No program is named here. -/
import Derived.Test.YtnlpeiffbnlncaaDoorQp2
import Derived.Test.YtnlpeiffbnlncaaDoorQRenP
namespace Go.Proofs.YtnlpeiffbnlncaaDoor
set_option linter.unusedVariables false

theorem filter_at {α : Type} (p : α → Bool) : ∀ (l : List α) (i : Nat) (x : α), l[i]? = some x → p x = true → (l.filter p)[(l.take i).countP p]? = some x
  | [], i, x, h, _ => by simp at h
  | y :: l, 0, x, h, hp => by
    simp at h
    subst h
    simp [hp]
  | y :: l, i + 1, x, h, hp => by
    have ih := filter_at p l i x (by simpa using h) hp
    rw [List.take_succ_cons, List.countP_cons, List.filter_cons]
    by_cases hy : p y = true
    · rw [if_pos hy, if_pos hy, List.getElem?_cons_succ]; exact ih
    · rw [if_neg hy, if_neg hy]; exact ih
theorem filter_from {α : Type} (p : α → Bool) : ∀ (l : List α) (j : Nat) (x : α), (l.filter p)[j]? = some x → ∃ i, l[i]? = some x ∧ p x = true ∧ (l.take i).countP p = j
  | [], j, x, h => by simp at h
  | y :: l, j, x, h => by
    rw [List.filter_cons] at h
    by_cases hy : p y = true
    · rw [if_pos hy] at h
      cases j with
      | zero =>
        simp at h
        subst h
        exact ⟨0, rfl, hy, rfl⟩
      | succ j =>
        obtain ⟨i, h1, h2, h3⟩ := filter_from p l j x (by simpa using h)
        exact ⟨i + 1, by simpa using h1, h2, by rw [List.take_succ_cons, List.countP_cons, if_pos hy, h3]⟩
    · rw [if_neg hy] at h
      obtain ⟨i, h1, h2, h3⟩ := filter_from p l j x h
      exact ⟨i + 1, by simpa using h1, h2, by rw [List.take_succ_cons, List.countP_cons, if_neg hy, h3, Nat.add_zero]⟩

theorem take_countP_lt {α : Type} (p : α → Bool) : ∀ (l : List α) (i j : Nat) (x : α), i < j → l[i]? = some x → p x = true → (l.take i).countP p < (l.take j).countP p
  | [], i, j, x, _, h, _ => by simp at h
  | y :: l, 0, j + 1, x, _, h, hp => by
    simp at h
    subst h
    rw [List.take_succ_cons, List.countP_cons, if_pos hp]
    simp
  | y :: l, i + 1, j + 1, x, hij, h, hp => by
    have := take_countP_lt p l i j x (by omega) (by simpa using h) hp
    rw [List.take_succ_cons, List.take_succ_cons, List.countP_cons, List.countP_cons]
    omega
  | y :: l, i, 0, x, hij, _, _ => by omega
theorem take_countP_inj {α : Type} (p : α → Bool) {l : List α} {i j : Nat} {x y : α} (hi : l[i]? = some x) (hx : p x = true) (hj : l[j]? = some y) (hy : p y = true) (h : (l.take i).countP p = (l.take j).countP p) : i = j := by
  rcases Nat.lt_trichotomy i j with h1 | h1 | h1
  · have := take_countP_lt p l i j x h1 hi hx; omega
  · exact h1
  · have := take_countP_lt p l j i y h1 hj hy; omega
/-- What stays of a grammar answers to it. -/
theorem TrimS.ren {g : Gram} {n : Nat} {l : List Int} {s : List Bool} (h : TrimS g n l s) :
    ∃ f k : Int → Int, Ren g (trimG g l s) f k (fun x => x.term = true ∨ (0 ≤ x.n ∧ s[x.n.toNat]? = some true)) (renSym s) := by
  have hch : ∀ r : Nat, ∃ i : Nat, ∀ q, (g.rules.filter (stayB l s))[r]? = some q → g.rules[i]? = some q ∧ stayB l s q = true ∧ (g.rules.take i).countP (stayB l s) = r := by
    intro r
    cases hq : (g.rules.filter (stayB l s))[r]? with
    | none => exact ⟨0, fun q e => by cases e⟩
    | some q =>
      obtain ⟨i, h1, h2, h3⟩ := filter_from _ _ _ _ hq
      exact ⟨i, fun q' e => by injection e with e; subst e; exact ⟨h1, h2, h3⟩⟩
  obtain ⟨ψ, hψ⟩ := Classical.axiomOfChoice hch
  have hst : ∀ q ∈ g.rules, stayB l s q = true ↔ s[q.left.toNat]? = some true ∧ useB l q = true := fun q hq => by
    unfold stayB
    rw [Bool.and_eq_true, getD_true]
  have htr : ∀ q : Rule, (⟨(renSym s ⟨false, q.left⟩).n, q.right.map (renSym s)⟩ : Rule) = trimRule s q := fun q => by simp [trimRule, renSym]
  have hget : ∀ (r : Nat) (q : Rule), (g.rules.filter (stayB l s))[r]? = some q → (trimG g l s).rules[r]? = some (trimRule s q) := fun r q hq => by
    simp only [trimG]
    rw [List.getElem?_map, hq]
    rfl
  have hok : ∀ q ∈ g.rules, stayB l s q = true → ∀ x ∈ q.right, x.term = true ∨ (0 ≤ x.n ∧ s[x.n.toNat]? = some true) := fun q hq hs x hx => by
    by_cases ht : x.term = true
    · exact .inl ht
    · have htf : x.term = false := by simpa using ht
      have hin := (h.rules q hq).2.2.2 x hx
      exact .inr ⟨hin.1, h.reach.closed hq ((hst q hq).1 hs).1 ((hst q hq).1 hs).2 hx htf (hin.2 htf)⟩
  refine ⟨fun i => (((g.rules.take i.toNat).countP (stayB l s) : Nat) : Int), fun r => ((ψ r.toNat : Nat) : Int), ⟨fun x => ?_, fun x hx => ?_, fun i q hq ho hd => ?_, fun r z hz a ha hza => ?_⟩⟩
  · unfold renSym
    split
    · rfl
    · rename_i h; simpa using h
  · unfold renSym; rw [if_pos hx]
  · have hqm := List.mem_of_getElem? hq
    have ho2 : s[q.left.toNat]? = some true := by
      rcases ho with ho | ho
      · simp at ho
      · exact ho.2
    have hu : useB l q = true := (useB_iff l q).2 (fun x hx ht => by
      obtain ⟨t, htr⟩ := hd x hx
      exact vt_len h.lens h.rules t x htr ht)
    have hs := (hst q hqm).2 ⟨ho2, hu⟩
    have hf := filter_at (stayB l s) g.rules i q hq hs
    refine ⟨(g.rules.take i).countP (stayB l s), by simp, ?_, ?_, hok q hqm hs⟩
    · rw [htr]; exact hget _ _ hf
    · obtain ⟨h1, h2, h3⟩ := hψ _ q hf
      rw [Int.toNat_natCast]
      rw [take_countP_inj _ h1 h2 hq hs h3]
  · simp only [trimG] at hz
    rw [List.getElem?_map] at hz
    cases hf : (g.rules.filter (stayB l s))[r]? with
    | none => rw [hf] at hz; simp at hz
    | some q =>
      rw [hf] at hz
      simp only [Option.map_some, Option.some.injEq] at hz
      obtain ⟨h1, h2, h3⟩ := hψ r q hf
      have hqm := List.mem_of_getElem? h1
      have ha' : 0 ≤ a ∧ s[a.toNat]? = some true := by
        rcases ha with ha | ha
        · simp at ha
        · exact ha
      have hq0 := (h.rules q hqm).1
      have e' : toV s q.left.toNat = toV s a.toNat := by
        have e2 : ((toV s q.left.toNat : Nat) : Int) = (toV s a.toNat : Nat) := by rw [← hz] at hza; simpa [renSym, trimRule] using hza
        omega
      have e3 := toV_inj ((hst q hqm).1 h2).1 ha'.2 e'
      exact ⟨ψ r, q, by rw [Int.toNat_natCast], h1, by omega, by rw [← hz]; rfl, by rw [Int.toNat_natCast, h3], hok q hqm h2⟩
/-- Trim changes the number of trees of no word. -/
theorem trim_count {g : Gram} {n : Nat} {l : List Int} {s : List Bool} (h : TrimS g n l s) (h0 : 0 ≤ g.start) {w : List Int} {a b : Int} (ha : CntIs (TreesOf g w) a) (hb : CntIs (TreesOf (trimG g l s) w) b) : a = b := by
  obtain ⟨f, k, R⟩ := h.ren
  exact R.count (.inr ⟨h0, h.reach.start⟩) (by simp [renSym, trimG]) ha hb
theorem trim_none {g : Gram} {n : Nat} {l : List Int} (h : LFix g n l) (hr : RulesIn g n) (h0 : l.getD g.start.toNat 0 < 0) {w : List Int} {a : Int} (ha : CntIs (TreesOf g w) a) : a = 0 :=
  cnt_zero ha (fun t ht => by
    have := vt_len h hr t ⟨false, g.start⟩ ht.1 rfl
    dsimp only at this
    omega)
end Go.Proofs.YtnlpeiffbnlncaaDoor
