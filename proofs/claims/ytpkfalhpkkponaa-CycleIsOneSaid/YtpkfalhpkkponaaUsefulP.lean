/- What useful.lengths and useful.reached compute: rounds over the rules until nothing turns; what a fixed point is good for. No program is named here. -/
import Derived.Test.YtpkfalhpkkponaaFirstP
namespace Go.Proofs.Ytpkfalhpkkponaa
open Go.RowKit
set_option linter.unusedVariables false

/-- The length of a right side, from a sum on; -1 where a part has none. -/
def sumR (l : List Int) : Int → List Sym → Int
  | a, [] => a
  | a, s :: ss => sumR l (if s.term = true ∧ 0 ≤ a then a + 1 else if 0 ≤ a ∧ 0 ≤ l.getD s.n.toNat 0 ∧ s.term = false then a + l.getD s.n.toNat 0 else -1) ss
/-- All parts have a length. -/
def useB (l : List Int) (q : Rule) : Bool := !(q.right.any fun s => !s.term && decide (l.getD s.n.toNat 0 < 0))
def lenStep (l : List Int) (q : Rule) : List Int :=
  if 0 ≤ sumR l 0 q.right ∧ (l.getD q.left.toNat 0 < 0 ∨ sumR l 0 q.right < l.getD q.left.toNat 0) then l.set q.left.toNat (sumR l 0 q.right) else l
def lenPass (rs : List Rule) (l : List Int) : List Int := rs.foldl lenStep l
def lenIter (rs : List Rule) : Nat → List Int → List Int
  | 0, l => l
  | k + 1, l => lenPass rs (lenIter rs k l)
def lenInit (n : Nat) : List Int := List.replicate n (-1)

def pw (k : Nat) : Nat := 4 ^ k
theorem pw_mono {a b : Nat} (h : a ≤ b) : pw a ≤ pw b := Nat.pow_le_pow_right (by omega) h
theorem pw_pos (a : Nat) : 1 ≤ pw a := pw_mono (Nat.zero_le a)
theorem pw_succ (a : Nat) : pw (a + 1) = 4 * pw a := by unfold pw; rw [Nat.pow_succ]; omega
theorem pw_ten : pw 10 = 1048576 := by decide
def cntN (l : List Int) : Nat := l.countP fun x => decide (0 ≤ x)
/-- The table of lengths on the way. -/
structure LShape (n : Nat) (l : List Int) : Prop where
  len : l.length = n
  low : ∀ x ∈ l, -1 ≤ x
  high : ∀ x ∈ l, x ≤ (pw (cntN l) : Int)

theorem LShape.cnt {n : Nat} {l : List Int} (h : LShape n l) : cntN l ≤ n := by have := List.countP_le_length (p := fun x : Int => decide (0 ≤ x)) (l := l); unfold cntN; have := h.len; omega
theorem LShape.init (n : Nat) : LShape n (lenInit n) := ⟨by simp [lenInit], fun x hx => by simp [lenInit] at hx; omega, fun x hx => by simp [lenInit] at hx; have := pw_pos (cntN (lenInit n)); omega⟩
theorem LShape.bound {n : Nat} {l : List Int} (h : LShape n l) (hn : n ≤ 10) : ∀ x ∈ l, -1 ≤ x ∧ x ≤ 1048576 := fun x hx => by
  refine ⟨h.low x hx, ?_⟩
  have h1 := h.high x hx
  have h2 := pw_mono (show cntN l ≤ 10 by have := h.cnt; omega)
  have h3 := pw_ten
  omega
theorem LShape.get {n : Nat} {l : List Int} (h : LShape n l) (k : Nat) : -1 ≤ l.getD k 0 ∧ l.getD k 0 ≤ (pw (cntN l) : Int) := by
  rw [List.getD_eq_getElem?_getD]
  cases hk : l[k]? with
  | none => have := pw_pos (cntN l); simp
  | some x => exact ⟨h.low x (List.mem_of_getElem? hk), h.high x (List.mem_of_getElem? hk)⟩

theorem sumR_neg (l : List Int) : ∀ (ss : List Sym) (a : Int), a < 0 → sumR l a ss = (if ss = [] then a else -1)
  | [], a, _ => by simp [sumR]
  | s :: ss, a, h => by
    rw [sumR, if_neg (by omega), if_neg (by omega), sumR_neg l ss (-1) (by omega)]
    split <;> simp
/-- One part's share. -/
def partR (l : List Int) (s : Sym) : Int := if s.term then 1 else l.getD s.n.toNat 0
theorem sumR_cons (l : List Int) (s : Sym) (ss : List Sym) (a : Int) (ha : 0 ≤ a) : sumR l a (s :: ss) = if 0 ≤ partR l s then sumR l (a + partR l s) ss else -1 := by
  rw [sumR]
  unfold partR
  cases hs : s.term
  · simp only [Bool.false_eq_true, false_and, if_false, and_true]
    by_cases h : 0 ≤ l.getD s.n.toNat 0
    · rw [if_pos ⟨ha, h⟩, if_pos h]
    · rw [if_neg (by omega), if_neg h, sumR_neg l ss _ (by omega)]; split <;> rfl
  · simp [ha]
theorem sumR_up (l : List Int) (B : Int) (hB : 1 ≤ B) (hl : ∀ k, l.getD k 0 ≤ B) : ∀ (ss : List Sym) (a : Int), sumR l a ss ≤ (if a < 0 then 0 else a) + B * ss.length
  | [], a => by simp [sumR]; split <;> omega
  | s :: ss, a => by
    have e : B * ((s :: ss).length : Int) = B * (ss.length : Int) + B := by simp [Int.mul_add]
    by_cases ha : a < 0
    · rw [sumR_neg l _ a ha]
      simp
      have : 0 ≤ B * ((ss.length : Int) + 1) := Int.mul_nonneg (by omega) (by omega)
      rw [if_pos ha]; omega
    · rw [sumR_cons l s ss a (by omega), if_neg ha, e]
      have hp : partR l s ≤ B := by unfold partR; split; omega; exact hl _
      have hm : 0 ≤ B * (ss.length : Int) := Int.mul_nonneg (by omega) (by omega)
      split
      · rename_i h0
        have := sumR_up l B hB hl ss (a + partR l s)
        rw [if_neg (by omega)] at this
        omega
      · omega
theorem sumR_low (l : List Int) : ∀ (ss : List Sym) (a : Int), 0 ≤ a → -1 ≤ sumR l a ss
  | [], a, h => by simp [sumR]; omega
  | s :: ss, a, h => by
    rw [sumR_cons l s ss a h]
    split
    · exact sumR_low l ss _ (by omega)
    · omega
/-- A right side has a length just if all its parts have. -/
theorem sumR_nonneg (l : List Int) : ∀ (ss : List Sym) (a : Int), 0 ≤ a → (0 ≤ sumR l a ss ↔ ∀ s ∈ ss, s.term = false → 0 ≤ l.getD s.n.toNat 0)
  | [], a, h => by simp [sumR, h]
  | s :: ss, a, h => by
    rw [sumR_cons l s ss a h]
    by_cases hp : 0 ≤ partR l s
    · rw [if_pos hp, sumR_nonneg l ss _ (by omega)]
      simp only [List.mem_cons, forall_eq_or_imp]
      constructor
      · exact fun h2 => ⟨fun hs => by unfold partR at hp; rw [hs] at hp; simpa using hp, h2⟩
      · exact fun h2 => h2.2
    · rw [if_neg hp]
      constructor
      · intro h; omega
      · intro h2
        exfalso
        apply hp
        unfold partR
        cases hs : s.term
        · simpa using h2 s (by simp) hs
        · simp
theorem useB_iff (l : List Int) (q : Rule) : useB l q = true ↔ ∀ s ∈ q.right, s.term = false → 0 ≤ l.getD s.n.toNat 0 := by
  unfold useB
  rw [Bool.not_eq_true', ← Bool.not_eq_true, List.any_eq_true]
  constructor
  · intro h s hs ht
    false_or_by_contra
    rename_i hneg
    exact h ⟨s, hs, by simp only [ht, Bool.not_false, Bool.true_and, decide_eq_true_eq]; omega⟩
  · rintro h ⟨s, hs, hp⟩
    simp at hp
    have := h s hs hp.1
    rw [List.getD_eq_getElem?_getD] at this
    omega

theorem countP_set_up {p : Int → Bool} : ∀ (l : List Int) (k : Nat) (x y : Int), l[k]? = some x → p y = true → (l.set k y).countP p = l.countP p + (if p x then 0 else 1)
  | [], k, x, y, h, _ => by simp at h
  | a :: l, 0, x, y, h, hy => by
    simp at h; subst h
    simp only [List.set_cons_zero, List.countP_cons, hy, if_true]
    split <;> omega
  | a :: l, k + 1, x, y, h, hy => by
    have := countP_set_up l k x y (by simpa using h) hy
    simp only [List.set_cons_succ, List.countP_cons, this]
    omega
theorem LShape.step {n : Nat} {l : List Int} (h : LShape n l) (q : Rule) (hq : q.left.toNat < n) (hr : q.right.length ≤ 4) : LShape n (lenStep l q) := by
  unfold lenStep
  split
  · rename_i hc
    obtain ⟨x, hx⟩ := get_some (show q.left.toNat < l.length by rw [h.len]; exact hq)
    have hxd : l.getD q.left.toNat 0 = x := by rw [List.getD_eq_getElem?_getD, hx]; rfl
    rw [hxd] at hc
    have hu := sumR_up l (pw (cntN l) : Int) (by have := pw_pos (cntN l); omega) (fun k => (h.get k).2) q.right 0
    have hcn := countP_set_up (p := fun x : Int => decide (0 ≤ x)) l q.left.toNat x (sumR l 0 q.right) hx (by simpa using hc.1)
    have hle : cntN l ≤ cntN (l.set q.left.toNat (sumR l 0 q.right)) := by unfold cntN; omega
    have hm := pw_mono hle
    have hp := pw_pos (cntN l)
    refine ⟨by simp [h.len], fun y hy => ?_, fun y hy => ?_⟩
    · rcases List.mem_or_eq_of_mem_set hy with hy | rfl
      · exact h.low y hy
      · omega
    · rcases List.mem_or_eq_of_mem_set hy with hy | rfl
      · have := h.high y hy; omega
      · by_cases hx0 : 0 ≤ x
        · have := h.high x (List.mem_of_getElem? hx); omega
        · have hcn2 : cntN (l.set q.left.toNat (sumR l 0 q.right)) = cntN l + 1 := by unfold cntN; rw [hcn]; simp [hx0]
          rw [hcn2, pw_succ]
          have h4 : (pw (cntN l) : Int) * (q.right.length : Int) ≤ (pw (cntN l) : Int) * 4 := Int.mul_le_mul_of_nonneg_left (by omega) (by omega)
          simp at hu
          omega
  · exact h
theorem LShape.pass {n : Nat} : ∀ (rs : List Rule) (l : List Int), LShape n l → (∀ q ∈ rs, q.left.toNat < n ∧ q.right.length ≤ 4) → LShape n (lenPass rs l)
  | [], l, h, _ => h
  | q :: rs, l, h, hr => LShape.pass rs (lenStep l q) (h.step q (hr q (by simp)).1 (hr q (by simp)).2) (fun x hx => hr x (by simp [hx]))

/-- What is left to fall. -/
def fuelI (x : Int) : Nat := if x < 0 then 1048577 else x.toNat
def lenFuel (l : List Int) : Nat := (l.map fuelI).sum
theorem lsum_set : ∀ (l : List Nat) (i x y : Nat), l[i]? = some x → (l.set i y).sum + x = l.sum + y
  | [], _, _, _, h => by simp at h
  | a :: l, 0, x, y, h => by simp at h; subst h; simp; omega
  | a :: l, i + 1, x, y, h => by
    have := lsum_set l i x y (by simpa using h)
    simp only [List.set_cons_succ, List.sum_cons]
    omega
theorem lenStep_fuel {n : Nat} {l : List Int} (h : LShape n l) (hn : n ≤ 10) (q : Rule) (hq : q.left.toNat < n) (hr : q.right.length ≤ 4) : lenStep l q = l ∨ lenFuel (lenStep l q) < lenFuel l := by
  have h2 := (h.step q hq hr).bound hn
  obtain ⟨x, hx⟩ := get_some (show q.left.toNat < l.length by rw [h.len]; exact hq)
  have hxd : l.getD q.left.toNat 0 = x := by rw [List.getD_eq_getElem?_getD, hx]; rfl
  unfold lenStep at h2 ⊢
  rw [hxd] at h2 ⊢
  split
  · rename_i hc
    rw [if_pos hc] at h2
    right
    have hl : q.left.toNat < l.length := (List.getElem?_eq_some_iff.1 hx).1
    have hv := h2 (sumR l 0 q.right) (List.mem_iff_getElem.2 ⟨q.left.toNat, by simpa using hl, by simp⟩)
    have hs := lsum_set (l.map fuelI) q.left.toNat (fuelI x) (fuelI (sumR l 0 q.right)) (by rw [List.getElem?_map, hx]; rfl)
    have hlt : fuelI (sumR l 0 q.right) < fuelI x := by
      unfold fuelI
      rw [if_neg (by omega)]
      split <;> omega
    unfold lenFuel
    rw [List.map_set]
    omega
  · left; rfl

/-- A table that no rule's step turns. -/
structure LFix (g : Gram) (n : Nat) (l : List Int) : Prop where
  shape : LShape n l
  iter : ∃ k, l = lenIter g.rules k (lenInit n)
  fix : ∀ q ∈ g.rules, lenStep l q = l
theorem LFix.closed {g : Gram} {n : Nat} {l : List Int} (h : LFix g n l) {q : Rule} (hq : q ∈ g.rules) (hl : q.left.toNat < n) (hu : useB l q = true) : 0 ≤ l.getD q.left.toNat 0 := by
  have hs := (sumR_nonneg l q.right 0 (by omega)).2 ((useB_iff l q).1 hu)
  have hf := h.fix q hq
  have hlt : q.left.toNat < l.length := by rw [h.shape.len]; exact hl
  unfold lenStep at hf
  false_or_by_contra
  rename_i hneg
  rw [if_pos ⟨hs, .inl (by omega)⟩] at hf
  have h2 := congrArg (fun z : List Int => z.getD q.left.toNat 0) hf
  simp only [List.getD_eq_getElem?_getD, List.getElem?_set, if_true, if_pos hlt] at h2
  rw [List.getD_eq_getElem?_getD] at hneg
  simp at h2
  omega
theorem lenStep_mono (l : List Int) (q : Rule) (k : Nat) (h : 0 ≤ l.getD k 0) (hk : k < l.length) : 0 ≤ (lenStep l q).getD k 0 := by
  unfold lenStep
  split
  · rename_i hc
    rw [List.getD_eq_getElem?_getD, List.getElem?_set]
    split
    · split
      · simpa using hc.1
      · simp
    · rw [List.getD_eq_getElem?_getD] at h; exact h
  · exact h

/-- The terminals and nonterminals of a rule are in range. -/
def RulesIn (g : Gram) (n : Nat) : Prop := ∀ q ∈ g.rules, 0 ≤ q.left ∧ q.left.toNat < n ∧ q.right.length ≤ 4 ∧ ∀ s ∈ q.right, 0 ≤ s.n ∧ (s.term = false → s.n.toNat < n)

mutual
/-- A tree's root has a word. -/
theorem vt_len {g : Gram} {n : Nat} {l : List Int} (h : LFix g n l) (hr : RulesIn g n) : ∀ (t : Tree) (s : Sym), vt g t s → s.term = false → 0 ≤ l.getD s.n.toNat 0
  | ⟨r, t, ks⟩, s, hv, hs => by
    unfold vt at hv
    rw [if_neg (by simp [hs])] at hv
    obtain ⟨_, _, q, hq, hql, hks⟩ := hv
    have hm := List.mem_of_getElem? hq
    rw [← hql]
    exact h.closed hm (hr q hm).2.1 ((useB_iff l q).2 (vts_len' h hr ks q.right hks))
theorem vts_len' {g : Gram} {n : Nat} {l : List Int} (h : LFix g n l) (hr : RulesIn g n) : ∀ (ks : List Tree) (ss : List Sym), vts g ks ss → ∀ s ∈ ss, s.term = false → 0 ≤ l.getD s.n.toNat 0
  | [], [], _, s, hs, _ => by simp at hs
  | [], _ :: _, hv, _, _, _ => by unfold vts at hv; exact hv.elim
  | _ :: _, [], hv, _, _, _ => by unfold vts at hv; exact hv.elim
  | k :: ks, x :: ss, hv, s, hs, ht => by
    unfold vts at hv
    rcases List.mem_cons.1 hs with rfl | hs
    · exact vt_len h hr k s hv.1 ht
    · exact vts_len' h hr ks ss hv.2 s hs ht
end

/-! ### Reached nonterminals -/
def symStep (s : List Bool) (x : Sym) : List Bool := if x.term then s else s.set x.n.toNat true
def reachStep (p : Rule → Bool) (s : List Bool) (q : Rule) : List Bool := if s.getD q.left.toNat false && p q then q.right.foldl symStep s else s
def reachPass (p : Rule → Bool) (rs : List Rule) (s : List Bool) : List Bool := rs.foldl (reachStep p) s
def reachIter (p : Rule → Bool) (rs : List Rule) : Nat → List Bool → List Bool
  | 0, s => s
  | k + 1, s => reachPass p rs (reachIter p rs k s)
def reachInit (n s0 : Nat) : List Bool := (List.replicate n false).set s0 true

theorem rcount_set : ∀ (l : List Bool) (i : Nat), (l.set i true).count false + (if l[i]? = some false then 1 else 0) = l.count false
  | [], i => by simp
  | a :: l, 0 => by cases a <;> simp
  | a :: l, i + 1 => by
    have := rcount_set l i
    simp only [List.set_cons_succ, List.count_cons, List.getElem?_cons_succ]
    omega
theorem set_true_id {l : List Bool} {i : Nat} (h : ¬ l[i]? = some false) : l.set i true = l := by
  apply List.ext_getElem?
  intro j
  rw [List.getElem?_set]
  split
  · rename_i e
    subst e
    split
    · rename_i hl
      rw [List.getElem?_eq_getElem hl] at h ⊢
      cases hb : l[i]
      · rw [hb] at h; exact absurd rfl h
      · rfl
    · rename_i hl
      rw [List.getElem?_eq_none (by omega)]
  · rfl
theorem symStep_len (s : List Bool) (x : Sym) : (symStep s x).length = s.length := by unfold symStep; split <;> simp
theorem symStep_count (s : List Bool) (x : Sym) : symStep s x = s ∨ (symStep s x).count false < s.count false := by
  unfold symStep
  split
  · exact .inl rfl
  · by_cases h : s[x.n.toNat]? = some false
    · right; have := rcount_set s x.n.toNat; rw [if_pos h] at this; omega
    · exact .inl (set_true_id h)
theorem symFold_len : ∀ (xs : List Sym) (s : List Bool), (xs.foldl symStep s).length = s.length
  | [], _ => rfl
  | x :: xs, s => by rw [List.foldl_cons, symFold_len xs, symStep_len]
theorem symFold_count : ∀ (xs : List Sym) (s : List Bool), xs.foldl symStep s = s ∨ (xs.foldl symStep s).count false < s.count false
  | [], s => .inl rfl
  | x :: xs, s => by
    rw [List.foldl_cons]
    rcases symStep_count s x with h | h
    · rw [h]; exact symFold_count xs s
    · rcases symFold_count xs (symStep s x) with h2 | h2
      · rw [h2]; exact .inr h
      · exact .inr (by omega)
theorem reachStep_len (p : Rule → Bool) (s : List Bool) (q : Rule) : (reachStep p s q).length = s.length := by unfold reachStep; split; exact symFold_len _ _; rfl
theorem reachStep_count (p : Rule → Bool) (s : List Bool) (q : Rule) : reachStep p s q = s ∨ (reachStep p s q).count false < s.count false := by
  unfold reachStep; split; exact symFold_count _ _; exact .inl rfl
theorem symStep_keep (s : List Bool) (x : Sym) (k : Nat) (h : s[k]? = some true) : (symStep s x)[k]? = some true := by
  unfold symStep
  split
  · exact h
  · rw [List.getElem?_set]
    split
    · rw [if_pos (by rename_i e; rw [e]; exact (List.getElem?_eq_some_iff.1 h).1)]
    · exact h
theorem symFold_keep : ∀ (xs : List Sym) (s : List Bool) (k : Nat), s[k]? = some true → (xs.foldl symStep s)[k]? = some true
  | [], _, _, h => h
  | x :: xs, s, k, h => symFold_keep xs _ k (symStep_keep s x k h)
theorem symFold_in : ∀ (xs : List Sym) (s : List Bool) (x : Sym), x ∈ xs → x.term = false → x.n.toNat < s.length → (xs.foldl symStep s)[x.n.toNat]? = some true
  | [], _, _, h, _, _ => by simp at h
  | y :: xs, s, x, h, ht, hl => by
    rw [List.foldl_cons]
    rcases List.mem_cons.1 h with rfl | h
    · apply symFold_keep
      unfold symStep
      rw [ht]
      simp [hl]
    · exact symFold_in xs _ x h ht (by rw [symStep_len]; exact hl)
/-- A row that no rule's step turns. -/
structure RFix (g : Gram) (p : Rule → Bool) (n : Nat) (s : List Bool) : Prop where
  len : s.length = n
  start : s[g.start.toNat]? = some true
  iter : ∃ k, s = reachIter p g.rules k (reachInit n g.start.toNat)
  fix : ∀ q ∈ g.rules, reachStep p s q = s
theorem RFix.closed {g : Gram} {p : Rule → Bool} {n : Nat} {s : List Bool} (h : RFix g p n s) {q : Rule} (hq : q ∈ g.rules) (hl : s[q.left.toNat]? = some true) (hp : p q = true) {x : Sym} (hx : x ∈ q.right) (ht : x.term = false) (hn : x.n.toNat < n) : s[x.n.toNat]? = some true := by
  have hf := h.fix q hq
  unfold reachStep at hf
  rw [List.getD_eq_getElem?_getD, hl, hp] at hf
  simp at hf
  rw [← hf]
  exact symFold_in q.right s x hx ht (by rw [h.len]; exact hn)

/-- The rules that remain. -/
def stayB (l : List Int) (s : List Bool) (q : Rule) : Bool := s.getD q.left.toNat false && useB l q
mutual
/-- All rules of a tree are among some numbers. -/
def allIn (rs : List Int) : Tree → Bool
  | ⟨r, _, ks⟩ => (decide (r < 0) || decide (r ∈ rs)) && allsIn rs ks
def allsIn (rs : List Int) : List Tree → Bool
  | [] => true
  | k :: ks => allIn rs k && allsIn rs ks
end
mutual
theorem vt_stay {g : Gram} {n : Nat} {l : List Int} {s : List Bool} (hl : LFix g n l) (hs : RFix g (useB l) n s) (hr : RulesIn g n) (rs : List Int) (hrs : ∀ (i : Nat) (q : Rule), g.rules[i]? = some q → stayB l s q = true → (i : Int) ∈ rs) :
    ∀ (t : Tree) (x : Sym), vt g t x → (x.term = false → s[x.n.toNat]? = some true) → allIn rs t = true
  | ⟨r, t, ks⟩, x, hv, hx => by
    unfold vt at hv
    unfold allIn
    cases hxt : x.term
    · rw [if_neg (by simp [hxt])] at hv
      obtain ⟨_, hr0, q, hq, hql, hks⟩ := hv
      have hm := List.mem_of_getElem? hq
      have hin := hx hxt
      rw [← hql] at hin
      have hu : useB l q = true := (useB_iff l q).2 (vts_len' hl hr ks q.right hks)
      have hst : stayB l s q = true := by unfold stayB; rw [List.getD_eq_getElem?_getD, hin, hu]; rfl
      have h1 := hrs r.toNat q hq hst
      rw [show ((r.toNat : Nat) : Int) = r from by omega] at h1
      rw [vts_stay hl hs hr rs hrs ks q.right hks (fun y hy ht => hs.closed hm hin hu hy ht ((hr q hm).2.2.2 y hy |>.2 ht))]
      simp [h1]
    · rw [if_pos hxt] at hv
      obtain ⟨rfl, _, rfl⟩ := hv
      simp [allsIn]
theorem vts_stay {g : Gram} {n : Nat} {l : List Int} {s : List Bool} (hl : LFix g n l) (hs : RFix g (useB l) n s) (hr : RulesIn g n) (rs : List Int) (hrs : ∀ (i : Nat) (q : Rule), g.rules[i]? = some q → stayB l s q = true → (i : Int) ∈ rs) :
    ∀ (ks : List Tree) (ss : List Sym), vts g ks ss → (∀ x ∈ ss, x.term = false → s[x.n.toNat]? = some true) → allsIn rs ks = true
  | [], [], _, _ => by simp [allsIn]
  | [], _ :: _, hv, _ => by unfold vts at hv; exact hv.elim
  | _ :: _, [], hv, _ => by unfold vts at hv; exact hv.elim
  | k :: ks, x :: ss, hv, h => by
    unfold vts at hv
    unfold allsIn
    rw [vt_stay hl hs hr rs hrs k x hv.1 (h x (by simp)), vts_stay hl hs hr rs hrs ks ss hv.2 (fun y hy => h y (by simp [hy]))]
    rfl
end
end Go.Proofs.Ytpkfalhpkkponaa
