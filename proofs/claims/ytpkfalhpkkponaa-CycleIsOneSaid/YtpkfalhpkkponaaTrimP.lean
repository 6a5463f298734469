/- What useful.Trim computes, and the plain law of UsefulOnce: in a trimmed grammar all nonterminals have a word and are reached. No program is named here. -/
import Derived.Test.YtpkfalhpkkponaaUsefulP
namespace Go.Proofs.Ytpkfalhpkkponaa
open Go.RowKit
set_option linter.unusedVariables false

/-- A nonterminal's new number. -/
def toV (s : List Bool) (n : Nat) : Nat := if s.getD n false then (s.take n).count true else 0
def renSym (s : List Bool) (x : Sym) : Sym := if x.term then x else ⟨false, (toV s x.n.toNat : Nat)⟩
def trimRule (s : List Bool) (q : Rule) : Rule := ⟨(toV s q.left.toNat : Nat), q.right.map (renSym s)⟩
def trimG (g : Gram) (l : List Int) (s : List Bool) : Gram := ⟨g.terms, (s.count true : Nat), (toV s g.start.toNat : Nat), (g.rules.filter (stayB l s)).map (trimRule s)⟩

/-! Numbers of the true places. -/
theorem take_count_lt : ∀ (s : List Bool) (i j : Nat), i < j → s[i]? = some true → (s.take i).count true < (s.take j).count true
  | [], i, j, _, h => by simp at h
  | a :: s, 0, j + 1, _, h => by simp at h; subst h; simp
  | a :: s, i + 1, j + 1, hij, h => by
    have := take_count_lt s i j (by omega) (by simpa using h)
    simp only [List.take_succ_cons, List.count_cons]
    omega
theorem toV_lt {s : List Bool} {i : Nat} (h : s[i]? = some true) : toV s i < s.count true := by
  unfold toV
  rw [List.getD_eq_getElem?_getD, h]
  have hl := (List.getElem?_eq_some_iff.1 h).1
  have := take_count_lt s i s.length hl h
  rw [List.take_length] at this
  simpa using this
theorem toV_inj {s : List Bool} {i j : Nat} (hi : s[i]? = some true) (hj : s[j]? = some true) (h : toV s i = toV s j) : i = j := by
  unfold toV at h
  rw [List.getD_eq_getElem?_getD, hi, List.getD_eq_getElem?_getD, hj] at h
  simp at h
  rcases Nat.lt_trichotomy i j with hl | rfl | hl
  · have := take_count_lt s i j hl hi; omega
  · rfl
  · have := take_count_lt s j i hl hj; omega
theorem toV_onto : ∀ (s : List Bool) (k : Nat), k < s.count true → ∃ i, s[i]? = some true ∧ (s.take i).count true = k
  | [], k, h => by simp at h
  | false :: s, k, h => by
    obtain ⟨i, h1, h2⟩ := toV_onto s k (by simpa using h)
    exact ⟨i + 1, by simpa using h1, by simp [h2]⟩
  | true :: s, 0, h => ⟨0, rfl, by simp⟩
  | true :: s, k + 1, h => by
    obtain ⟨i, h1, h2⟩ := toV_onto s k (by simpa using h)
    exact ⟨i + 1, by simpa using h1, by simp [h2]⟩
theorem toV_ex {s : List Bool} {k : Nat} (h : k < s.count true) : ∃ i, s[i]? = some true ∧ toV s i = k := by
  obtain ⟨i, h1, h2⟩ := toV_onto s k h
  exact ⟨i, h1, by unfold toV; rw [List.getD_eq_getElem?_getD, h1]; simpa using h2⟩

/-! Derived nonterminals, reached nonterminals. -/
inductive Der (g : Gram) : Nat → Prop where
  | mk (q : Rule) (hq : q ∈ g.rules) (h : ∀ x ∈ q.right, x.term = false → Der g x.n.toNat) : Der g q.left.toNat
inductive Rea (g : Gram) (p : Rule → Bool) : Nat → Prop where
  | start : Rea g p g.start.toNat
  | step (q : Rule) (hq : q ∈ g.rules) (h : Rea g p q.left.toNat) (hp : p q = true) (x : Sym) (hx : x ∈ q.right) (ht : x.term = false) : Rea g p x.n.toNat

theorem getD_of {α : Type} {l : List α} {k : Nat} {x d : α} (h : l[k]? = some x) : l.getD k d = x := by rw [List.getD_eq_getElem?_getD, h]; rfl
theorem lenStep_der {g : Gram} {n : Nat} {l : List Int} (hl : l.length = n) (h : ∀ k, k < n → 0 ≤ l.getD k 0 → Der g k) (q : Rule) (hq : q ∈ g.rules) (hr : RulesIn g n) : ∀ k, k < n → 0 ≤ (lenStep l q).getD k 0 → Der g k := by
  intro k hk h0
  unfold lenStep at h0
  split at h0
  · rename_i hc
    by_cases e : q.left.toNat = k
    · subst e
      refine Der.mk q hq fun x hx ht => h _ ((hr q hq).2.2.2 x hx |>.2 ht) ?_
      exact (sumR_nonneg l q.right 0 (by omega)).1 hc.1 x hx ht
    · rw [List.getD_eq_getElem?_getD, List.getElem?_set, if_neg e, ← List.getD_eq_getElem?_getD] at h0
      exact h k hk h0
  · exact h k hk h0
theorem lenStep_len (l : List Int) (q : Rule) : (lenStep l q).length = l.length := by unfold lenStep; split <;> simp
theorem lenPass_len : ∀ (rs : List Rule) (l : List Int), (lenPass rs l).length = l.length
  | [], l => rfl
  | q :: rs, l => by show (lenPass rs (lenStep l q)).length = _; rw [lenPass_len rs, lenStep_len]
theorem lenPass_der {g : Gram} {n : Nat} (hr : RulesIn g n) : ∀ (rs : List Rule) (l : List Int), (∀ q ∈ rs, q ∈ g.rules) → l.length = n → (∀ k, k < n → 0 ≤ l.getD k 0 → Der g k) → ∀ k, k < n → 0 ≤ (lenPass rs l).getD k 0 → Der g k
  | [], l, _, _, h => h
  | q :: rs, l, hq, hl, h => lenPass_der hr rs (lenStep l q) (fun x hx => hq x (by simp [hx])) (by rw [lenStep_len, hl]) (lenStep_der hl h q (hq q (by simp)) hr)
theorem lenIter_der {g : Gram} {n : Nat} (hr : RulesIn g n) : ∀ (j : Nat), (lenIter g.rules j (lenInit n)).length = n ∧ ∀ k, k < n → 0 ≤ (lenIter g.rules j (lenInit n)).getD k 0 → Der g k
  | 0 => ⟨by simp [lenIter, lenInit], fun k hk h => by
    exfalso
    rw [lenIter, lenInit, List.getD_eq_getElem?_getD, List.getElem?_replicate, if_pos hk] at h
    simp at h⟩
  | j + 1 => by
    obtain ⟨h1, h2⟩ := lenIter_der hr j
    exact ⟨by rw [lenIter, lenPass_len, h1], lenPass_der hr g.rules _ (fun q h => h) h1 h2⟩
theorem LFix.der {g : Gram} {n : Nat} {l : List Int} (h : LFix g n l) (hr : RulesIn g n) {k : Nat} (hk : k < n) (h0 : 0 ≤ l.getD k 0) : Der g k := by
  obtain ⟨j, hj⟩ := h.iter
  rw [hj] at h0
  exact (lenIter_der hr j).2 k hk h0
theorem LFix.of_der {g : Gram} {n : Nat} {l : List Int} (h : LFix g n l) (hr : RulesIn g n) {k : Nat} (hd : Der g k) : 0 ≤ l.getD k 0 := by
  induction hd with
  | mk q hq _ ih => exact h.closed hq (hr q hq).2.1 ((useB_iff l q).2 ih)

theorem symFold_rea {g : Gram} {p : Rule → Bool} (q : Rule) (hq : q ∈ g.rules) (hl : Rea g p q.left.toNat) (hp : p q = true) : ∀ (xs : List Sym) (s : List Bool), (∀ x ∈ xs, x ∈ q.right) → (∀ k : Nat, s[k]? = some true → Rea g p k) → ∀ k : Nat, (xs.foldl symStep s)[k]? = some true → Rea g p k
  | [], s, _, h => h
  | x :: xs, s, hx, h => symFold_rea q hq hl hp xs (symStep s x) (fun y hy => hx y (by simp [hy])) (fun k hk => by
    unfold symStep at hk
    split at hk
    · exact h k hk
    · rename_i ht
      rw [List.getElem?_set] at hk
      split at hk
      · rename_i e
        subst e
        exact Rea.step q hq hl hp x (hx x (by simp)) (by simpa using ht)
      · exact h k hk)
theorem reachPass_rea {g : Gram} {p : Rule → Bool} : ∀ (rs : List Rule) (s : List Bool), (∀ q ∈ rs, q ∈ g.rules) → (∀ k : Nat, s[k]? = some true → Rea g p k) → ∀ k : Nat, (reachPass p rs s)[k]? = some true → Rea g p k
  | [], s, _, h => h
  | q :: rs, s, hq, h => reachPass_rea rs (reachStep p s q) (fun x hx => hq x (by simp [hx])) (fun k hk => by
    unfold reachStep at hk
    split at hk
    · rename_i hc
      simp only [Bool.and_eq_true] at hc
      have hl : s[q.left.toNat]? = some true := by
        have := hc.1
        rw [List.getD_eq_getElem?_getD] at this
        cases hs : s[q.left.toNat]? with
        | none => rw [hs] at this; simp at this
        | some b => rw [hs] at this; simp at this; rw [this]
      exact symFold_rea q (hq q (by simp)) (h _ hl) hc.2 q.right s (fun x hx => hx) h k hk
    · exact h k hk)
theorem reachIter_rea {g : Gram} {p : Rule → Bool} {n : Nat} : ∀ (j : Nat) (k : Nat), (reachIter p g.rules j (reachInit n g.start.toNat))[k]? = some true → Rea g p k
  | 0, k, h => by
    rw [reachIter, reachInit, List.getElem?_set] at h
    split at h
    · rename_i e; subst e; exact Rea.start
    · rw [List.getElem?_replicate] at h
      split at h <;> simp at h
  | j + 1, k, h => reachPass_rea g.rules _ (fun q h => h) (reachIter_rea j) k h
theorem RFix.rea {g : Gram} {p : Rule → Bool} {n : Nat} {s : List Bool} (h : RFix g p n s) {k : Nat} (hk : s[k]? = some true) : Rea g p k := by
  obtain ⟨j, hj⟩ := h.iter
  rw [hj] at hk
  exact reachIter_rea j k hk
/-- What is reached through rules whose parts all have a word has a word. -/
theorem reached_len {g : Gram} {n : Nat} {l : List Int} {k : Nat} (h0 : 0 ≤ l.getD g.start.toNat 0) (h : Rea g (useB l) k) : 0 ≤ l.getD k 0 := by
  cases h with
  | start => exact h0
  | step q hq h hp x hx ht => exact (useB_iff l q).1 hp x hx ht

/-- What Trim works on and leaves. -/
structure TrimS (g : Gram) (n : Nat) (l : List Int) (s : List Bool) : Prop where
  lens : LFix g n l
  reach : RFix g (useB l) n s
  rules : RulesIn g n
  pos : 0 ≤ l.getD g.start.toNat 0

theorem getD_true {s : List Bool} {k : Nat} : s.getD k false = true ↔ s[k]? = some true := by
  rw [List.getD_eq_getElem?_getD]
  cases s[k]? with
  | none => simp
  | some b => simp
theorem TrimS.stay {g : Gram} {n : Nat} {l : List Int} {s : List Bool} (h : TrimS g n l s) {q : Rule} (hq : q ∈ g.rules) (hl : s[q.left.toNat]? = some true) (hu : useB l q = true) : trimRule s q ∈ (trimG g l s).rules := by
  unfold trimG
  refine List.mem_map.2 ⟨q, List.mem_filter.2 ⟨hq, ?_⟩, rfl⟩
  unfold stayB
  rw [getD_true.2 hl, hu]; rfl
theorem TrimS.parts {g : Gram} {n : Nat} {l : List Int} {s : List Bool} (h : TrimS g n l s) {r : Rule} (hr : r ∈ (trimG g l s).rules) : ∃ q ∈ g.rules, s[q.left.toNat]? = some true ∧ useB l q = true ∧ r = trimRule s q ∧ ∀ x ∈ q.right, x.term = false → s[x.n.toNat]? = some true := by
  obtain ⟨q, hq, rfl⟩ := List.mem_map.1 hr
  obtain ⟨hq, hs⟩ := List.mem_filter.1 hq
  unfold stayB at hs
  simp only [Bool.and_eq_true] at hs
  have hl := getD_true.1 hs.1
  exact ⟨q, hq, hl, hs.2, rfl, fun x hx ht => h.reach.closed hq hl hs.2 hx ht ((h.rules q hq).2.2.2 x hx |>.2 ht)⟩
theorem TrimS.rulesIn {g : Gram} {n : Nat} {l : List Int} {s : List Bool} (h : TrimS g n l s) : RulesIn (trimG g l s) (s.count true) := by
  intro r hr
  obtain ⟨q, hq, hl, hu, rfl, hx⟩ := h.parts hr
  refine ⟨by simp [trimRule], by simpa [trimRule] using toV_lt hl, by simpa [trimRule] using (h.rules q hq).2.2.1, fun y hy => ?_⟩
  obtain ⟨x, hxm, rfl⟩ := List.mem_map.1 hy
  unfold renSym
  split
  · rename_i ht
    exact ⟨((h.rules q hq).2.2.2 x hxm).1, fun h => by rw [ht] at h; cases h⟩
  · rename_i ht
    exact ⟨by simp, fun _ => by simpa using toV_lt (hx x hxm (by simpa using ht))⟩
/-- All nonterminals of a trimmed grammar have a word. -/
theorem TrimS.der {g : Gram} {n : Nat} {l : List Int} {s : List Bool} (h : TrimS g n l s) {k : Nat} (hd : Der g k) (hk : s[k]? = some true) : Der (trimG g l s) (toV s k) := by
  induction hd with
  | mk q hq hx ih =>
    have hu : useB l q = true := (useB_iff l q).2 (fun x hxm ht => h.lens.of_der h.rules (hx x hxm ht))
    have hm := h.stay hq hk hu
    have e : toV s q.left.toNat = (trimRule s q).left.toNat := by simp [trimRule]
    rw [e]
    refine Der.mk _ hm fun y hy ht => ?_
    obtain ⟨x, hxm, rfl⟩ := List.mem_map.1 hy
    have hxt : x.term = false := by
      cases hb : x.term
      · rfl
      · unfold renSym at ht; rw [if_pos hb] at ht; rw [hb] at ht; cases ht
    have e2 : (renSym s x).n.toNat = toV s x.n.toNat := by unfold renSym; rw [if_neg (by simp [hxt])]; simp
    rw [e2]
    exact ih x hxm hxt (h.reach.closed hq hk hu hxm hxt ((h.rules q hq).2.2.2 x hxm |>.2 hxt))
theorem TrimS.ends {g : Gram} {n : Nat} {l : List Int} {s : List Bool} (h : TrimS g n l s) {l' : List Int} (h' : LFix (trimG g l s) (s.count true) l') {k : Nat} (hk : k < s.count true) : 0 ≤ l'.getD k 0 := by
  obtain ⟨i, hi, rfl⟩ := toV_ex hk
  have hin : i < n := by rw [← h.reach.len]; exact (List.getElem?_eq_some_iff.1 hi).1
  exact h'.of_der h.rulesIn (h.der (h.lens.der h.rules hin (reached_len (n := n) h.pos (h.reach.rea hi))) hi)
/-- All nonterminals of a trimmed grammar are reached. -/
theorem TrimS.rea {g : Gram} {n : Nat} {l : List Int} {s : List Bool} (h : TrimS g n l s) {p' : Rule → Bool} {s' : List Bool} (h' : RFix (trimG g l s) p' (s.count true) s') (hp : ∀ r ∈ (trimG g l s).rules, p' r = true) {k : Nat} (hr : Rea g (useB l) k) : s[k]? = some true ∧ s'[toV s k]? = some true := by
  induction hr with
  | start =>
    refine ⟨h.reach.start, ?_⟩
    have := h'.start
    simpa [trimG] using this
  | step q hq hl hu x hx ht ih =>
    have hxs := h.reach.closed hq ih.1 hu hx ht ((h.rules q hq).2.2.2 x hx |>.2 ht)
    refine ⟨hxs, ?_⟩
    have hm := h.stay hq ih.1 hu
    have e2 : (renSym s x).n.toNat = toV s x.n.toNat := by unfold renSym; rw [if_neg (by simp [ht])]; simp
    have := h'.closed hm (by simpa [trimRule] using ih.2) (hp _ hm) (x := renSym s x) (List.mem_map.2 ⟨x, hx, rfl⟩) (by unfold renSym; rw [if_neg (by simp [ht])]) (by rw [e2]; exact toV_lt hxs)
    rwa [e2] at this
theorem TrimS.reached {g : Gram} {n : Nat} {l : List Int} {s : List Bool} (h : TrimS g n l s) {p' : Rule → Bool} {s' : List Bool} (h' : RFix (trimG g l s) p' (s.count true) s') (hp : ∀ r ∈ (trimG g l s).rules, p' r = true) {k : Nat} (hk : k < s.count true) : s'[k]? = some true := by
  obtain ⟨i, hi, rfl⟩ := toV_ex hk
  exact (h.rea h' hp (h.reach.rea hi)).2

/-! A grammar that Trim leaves as it is. -/
theorem all_true {s : List Bool} {n : Nat} (hl : s.length = n) (h : ∀ k, k < n → s[k]? = some true) : s = List.replicate n true := by
  apply List.ext_getElem?
  intro k
  rw [List.getElem?_replicate]
  split
  · rename_i hk; exact h k hk
  · rename_i hk; exact List.getElem?_eq_none (by omega)
theorem toV_all {n k : Nat} (h : k < n) : toV (List.replicate n true) k = k := by
  unfold toV
  rw [List.getD_eq_getElem?_getD, List.getElem?_replicate, if_pos h]
  simp [List.take_replicate]; omega
theorem trim_same {g : Gram} {n : Nat} {l : List Int} (hr : RulesIn g n) (hn : g.nons = (n : Int)) (h0 : 0 ≤ g.start) (h1 : g.start.toNat < n) (hl : ∀ k, k < n → 0 ≤ l.getD k 0) : trimG g l (List.replicate n true) = g ∧ (∀ q ∈ g.rules, stayB l (List.replicate n true) q = true) := by
  have hst : ∀ q ∈ g.rules, stayB l (List.replicate n true) q = true := by
    intro q hq
    have h2 := hr q hq
    unfold stayB
    rw [List.getD_eq_getElem?_getD, List.getElem?_replicate, if_pos h2.2.1, (useB_iff l q).2 (fun x hx ht => hl _ (h2.2.2.2 x hx |>.2 ht))]
    rfl
  refine ⟨?_, hst⟩
  obtain ⟨gt, gn, gs, rs⟩ := g
  unfold trimG
  have e1 : (List.replicate n true).count true = n := by simp
  have e2 : rs.filter (stayB l (List.replicate n true)) = rs := List.filter_eq_self.2 hst
  have e3 : rs.map (trimRule (List.replicate n true)) = rs := by
    have : ∀ q ∈ rs, trimRule (List.replicate n true) q = id q := by
      intro q hq
      obtain ⟨a, b, c, d⟩ := hr q hq
      obtain ⟨ql, qr⟩ := q
      dsimp only at a b c d
      unfold trimRule
      have e4 : qr.map (renSym (List.replicate n true)) = qr := by
        have : ∀ x ∈ qr, renSym (List.replicate n true) x = id x := by
          intro x hx
          obtain ⟨h3, h4⟩ := d x hx
          obtain ⟨xt, xn⟩ := x
          dsimp only at h3 h4
          unfold renSym
          cases xt
          · simp only [Bool.false_eq_true, if_false]
            rw [toV_all (h4 rfl)]
            simp; omega
          · simp
        rw [List.map_congr_left this, List.map_id]
      rw [toV_all b, e4]
      simp; omega
    rw [List.map_congr_left this, List.map_id]
  dsimp only at *
  rw [e1, e2, e3, toV_all h1, hn]
  congr 1
  omega
end Go.Proofs.Ytpkfalhpkkponaa
