/- Plain laws of cycles: ways by rules that pass on; the shortest cycle; a cycle that is found. No program is named here. -/
import Derived.Test.YtecofoilghdedaaQp1
import Derived.Test.YtecofoilghdedaaQFstP
namespace Go.Proofs.Ytecofoilghdedaa
open Go.RowKit
set_option linter.unusedVariables false

/-- A rule passes to a nonterminal. -/
def PassN (g : Gram) (q : Rule) (c : Int) : Prop := ∃ i : Nat, q.right[i]? = some ⟨false, c⟩ ∧ Nuls g (q.right.take i ++ q.right.drop (i + 1))
/-- From nonterminal to nonterminal. -/
def PassE (g : Gram) (a b : Nat) : Prop := ∃ q ∈ g.rules, q.left = (a : Int) ∧ PassN g q (b : Int)
/-- A rule and k further rules lead to t. -/
def TabR (g : Gram) : Nat → Rule → Nat → Prop
  | 0, q, t => PassN g q (t : Int)
  | k + 1, q, t => ∃ c : Int, PassN g q c ∧ ∃ q' ∈ g.rules, q'.left = c ∧ TabR g k q' t
/-- Exactly k steps. -/
def Stp (E : Nat → Nat → Prop) : Nat → Nat → Nat → Prop
  | 0, a, b => a = b
  | k + 1, a, b => ∃ c, E a c ∧ Stp E k c b
theorem Stp.app {E : Nat → Nat → Prop} : ∀ (j k a b c : Nat), Stp E j a b → Stp E k b c → Stp E (j + k) a c
  | 0, k, a, b, c, h1, h2 => by
    have e : a = b := h1
    subst e
    rw [Nat.zero_add]; exact h2
  | j + 1, k, a, b, c, ⟨d, h1, h2⟩, h3 => by
    rw [show j + 1 + k = (j + k) + 1 from by omega]
    exact ⟨d, h1, Stp.app j k d b c h2 h3⟩
theorem Stp.plus {E : Nat → Nat → Prop} : ∀ (k a b : Nat), Stp E (k + 1) a b → Plus E a b
  | 0, a, b, ⟨c, h1, h2⟩ => by
    have e : c = b := h2
    subst e
    exact .one _ h1
  | k + 1, a, b, ⟨c, h1, h2⟩ => (Plus.one c h1).trans (Stp.plus k c b h2)
theorem Plus.stp {E : Nat → Nat → Prop} {a b : Nat} (h : Plus E a b) : ∃ k, Stp E (k + 1) a b := by
  induction h with
  | one b h => exact ⟨0, b, h, rfl⟩
  | snoc b c _ hs ih =>
    obtain ⟨k, hk⟩ := ih
    exact ⟨k + 1, Stp.app (k + 1) 1 a b c hk ⟨c, hs, rfl⟩⟩
/-- The places on a way, the last one left out. -/
theorem Stp.nodes {E : Nat → Nat → Prop} : ∀ (k a b : Nat), Stp E k a b → ∃ l : List Nat, l.length = k ∧ (∀ (i x : Nat), l[i]? = some x → Stp E i a x ∧ Stp E (k - i) x b)
  | 0, a, b, h => ⟨[], rfl, fun i x hx => by simp at hx⟩
  | k + 1, a, b, ⟨c, h1, h2⟩ => by
    obtain ⟨l, hl, hx⟩ := Stp.nodes k c b h2
    refine ⟨a :: l, by simp [hl], fun i x hi => ?_⟩
    cases i with
    | zero =>
      simp at hi
      subst hi
      exact ⟨rfl, c, h1, h2⟩
    | succ i =>
      have h3 := hx i x (by simpa using hi)
      refine ⟨⟨c, h1, h3.1⟩, ?_⟩
      rw [show k + 1 - (i + 1) = k - i from by omega]
      exact h3.2
theorem nodup_le : ∀ (n : Nat) (l : List Nat), l.Nodup → (∀ x ∈ l, x < n) → l.length ≤ n
  | 0, l, _, h => by
    cases l with
    | nil => simp
    | cons x l => exact absurd (h x (by simp)) (by omega)
  | n + 1, l, hd, h => by
    have ih := nodup_le n (l.erase n) (hd.erase n) (fun x hx => by
      have h1 := (hd.mem_erase_iff).1 hx
      have := h x h1.2
      omega)
    have : l.length ≤ (l.erase n).length + 1 := by
      rw [List.length_erase]
      split <;> omega
    omega
theorem not_nodup : ∀ (l : List Nat), ¬ l.Nodup → ∃ (i j x : Nat), i < j ∧ l[i]? = some x ∧ l[j]? = some x
  | [], h => absurd List.nodup_nil h
  | a :: l, h => by
    by_cases hm : a ∈ l
    · obtain ⟨j, hj⟩ := List.mem_iff_getElem?.1 hm
      exact ⟨0, j + 1, a, by omega, rfl, hj⟩
    · have h1 : ¬ l.Nodup := fun hl => h (List.nodup_cons.2 ⟨hm, hl⟩)
      obtain ⟨i, j, x, h2, h3, h4⟩ := not_nodup l h1
      exact ⟨i + 1, j + 1, x, by omega, h3, h4⟩
/-- A shortest way back has at most n steps. -/
theorem stp_short {E : Nat → Nat → Prop} {n : Nat} (hE : ∀ a b, E a b → a < n ∧ b < n) : ∀ (k a : Nat), Stp E (k + 1) a a → ∃ j x, j < n ∧ Stp E (j + 1) x x
  | k, a, h => by
    by_cases hk : k < n
    · exact ⟨k, a, hk, h⟩
    · obtain ⟨l, hl, hx⟩ := Stp.nodes (k + 1) a a h
      have hlt : ∀ x ∈ l, x < n := fun x hm => by
        obtain ⟨i, hi⟩ := List.mem_iff_getElem?.1 hm
        have h1 := (hx i x hi).2
        have h2 := (List.getElem?_eq_some_iff.1 hi).1
        obtain ⟨d, hd⟩ : ∃ d, k + 1 - i = d + 1 := ⟨k - i, by omega⟩
        rw [hd] at h1
        obtain ⟨c, hc, _⟩ := h1
        exact (hE x c hc).1
      have hnd : ¬ l.Nodup := fun hd => by
        have := nodup_le n l hd hlt
        omega
      obtain ⟨i, j, x, h1, h2, h3⟩ := not_nodup l hnd
      -- from place i on to x again
      have hj := (List.getElem?_eq_some_iff.1 h3).1
      obtain ⟨m, hm, hmk⟩ : ∃ m, Stp E (m + 1) x x ∧ m < k := by
        have p1 := hx i x h2
        obtain ⟨l2, hl2, hx2⟩ := Stp.nodes (k + 1 - i) x a p1.2
        -- cut the way: the first i steps and the rest from j on form a shorter way back
        have p2 := hx j x h3
        have h4 := Stp.app i (k + 1 - j) a x a p1.1 p2.2
        by_cases h0 : i + (k + 1 - j) = 0
        · omega
        · have h5 := Stp.app (k + 1 - j) i x a x p2.2 p1.1
          refine ⟨k + 1 - j + i - 1, ?_, by omega⟩
          rw [show k + 1 - j + i - 1 + 1 = k + 1 - j + i from by omega]
          exact h5
      exact stp_short hE m x hm
termination_by k => k
theorem tabR_stp {g : Gram} : ∀ (k : Nat) (q : Rule) (t : Nat), q ∈ g.rules → 0 ≤ q.left → (∀ q ∈ g.rules, ∀ c, PassN g q c → 0 ≤ c) → TabR g k q t → Stp (PassE g) (k + 1) q.left.toNat t
  | 0, q, t, hq, h0, _, h => ⟨t, ⟨q, hq, by omega, h⟩, rfl⟩
  | k + 1, q, t, hq, h0, hc, ⟨c, h1, q', hq', h2, h3⟩ => by
    have hc0 := hc q hq c h1
    refine ⟨c.toNat, ⟨q, hq, by omega, by rwa [Int.toNat_of_nonneg hc0]⟩, ?_⟩
    subst h2
    exact tabR_stp k q' t hq' hc0 hc h3
theorem stp_tabR {g : Gram} : ∀ (k a t : Nat), Stp (PassE g) (k + 1) a t → ∃ q ∈ g.rules, q.left = (a : Int) ∧ TabR g k q t
  | 0, a, t, ⟨c, ⟨q, hq, h1, h2⟩, h3⟩ => by
    have e : c = t := h3
    subst e
    exact ⟨q, hq, h1, h2⟩
  | k + 1, a, t, ⟨c, ⟨q, hq, h1, h2⟩, h3⟩ => by
    obtain ⟨q', hq', h4, h5⟩ := stp_tabR k c t h3
    exact ⟨q, hq, h1, (c : Int), h2, q', hq', h4, h5⟩

/-- The rule at a place. -/
def RuleAt (g : Gram) (i : Int) (q : Rule) : Prop := 0 ≤ i ∧ g.rules[i.toNat]? = some q
/-- A next rule on the way back to t, by so many further ones. -/
def NextOk (g : Gram) (last k' : Int) (more t : Nat) : Prop := ∃ q q', RuleAt g last q ∧ RuleAt g k' q' ∧ PassN g q q'.left ∧ TabR g more q' t
/-- The first p + 1 rules of the cycle of k rules back to t, the first one i. -/
structure CycTo (g : Gram) (k i t p : Nat) (l : List Int) : Prop where
  len : l.length = p + 1
  head : l[0]? = some (i : Int)
  next : ∀ (r : Nat) (x y : Int), l[r]? = some x → l[r + 1]? = some y → NextOk g x y (k - 2 - r) t ∧ ∀ z : Int, 0 ≤ z → z < y → ¬ NextOk g x z (k - 2 - r) t
/-- The first shortest cycle. -/
structure CycF (g : Gram) (n k i : Nat) (q : Rule) (l : List Int) : Prop where
  k1 : 1 ≤ k ∧ k ≤ n
  rule : g.rules[i]? = some q
  tab : TabR g (k - 1) q q.left.toNat
  short : ∀ k', 1 ≤ k' → k' < k → ∀ q' ∈ g.rules, ¬ TabR g (k' - 1) q' q'.left.toNat
  first : ∀ i', i' < i → ∀ q', g.rules[i']? = some q' → ¬ TabR g (k - 1) q' q'.left.toNat
  way : CycTo g k i q.left.toNat (k - 1) l
def NoCyc (g : Gram) (n : Nat) : Prop := ∀ k', 1 ≤ k' → k' ≤ n → ∀ q' ∈ g.rules, ¬ TabR g (k' - 1) q' q'.left.toNat
structure PassIn (g : Gram) (n : Nat) : Prop where
  left : ∀ q ∈ g.rules, 0 ≤ q.left ∧ q.left < (n : Int)
  tos : ∀ q ∈ g.rules, ∀ c, PassN g q c → 0 ≤ c ∧ c < (n : Int)
theorem PassIn.e {g : Gram} {n : Nat} (h : PassIn g n) : ∀ a b, PassE g a b → a < n ∧ b < n := by
  rintro a b ⟨q, hq, h1, h2⟩
  have := h.left q hq
  have := h.tos q hq _ h2
  omega
theorem noCyc_iff {g : Gram} {n : Nat} (h : PassIn g n) : NoCyc g n ↔ ∀ a, ¬ Plus (PassE g) a a := by
  constructor
  · intro hn a ha
    obtain ⟨k, hk⟩ := ha.stp
    obtain ⟨j, x, hj, hx⟩ := stp_short h.e k a hk
    obtain ⟨q, hq, h1, h2⟩ := stp_tabR j x x hx
    have h3 := hn (j + 1) (by omega) (by omega) q hq
    apply h3
    rw [show j + 1 - 1 = j from by omega, show q.left.toNat = x from by omega]
    exact h2
  · intro hp k' h1 h2 q hq ht
    have h3 := tabR_stp (k' - 1) q q.left.toNat hq (h.left q hq).1 (fun q hq c hc => (h.tos q hq c hc).1) ht
    exact hp _ (Stp.plus _ _ _ h3)
/-- All rules of the cycle that is found belong to nonterminals on cycles. -/
theorem CycF.on {g : Gram} {n k i : Nat} {q : Rule} {l : List Int} (h : CycF g n k i q l) (hp : PassIn g n) : ∀ (r : Nat) (x : Int), l[r]? = some x → ∃ q', RuleAt g x q' ∧ Plus (PassE g) q'.left.toNat q'.left.toNat := by
  have hq := List.mem_of_getElem? h.rule
  have hc0 : ∀ q ∈ g.rules, ∀ c, PassN g q c → 0 ≤ c := fun q hq c hc => (hp.tos q hq c hc).1
  have key : ∀ (r : Nat) (x : Int), l[r]? = some x → ∃ q', RuleAt g x q' ∧ q' ∈ g.rules ∧ (r = 0 → q' = q) ∧ (r ≠ 0 → Plus (PassE g) q.left.toNat q'.left.toNat) ∧ TabR g (k - 1 - r) q' q.left.toNat := by
    intro r
    induction r with
    | zero =>
      intro x hx
      rw [h.way.head] at hx
      injection hx with hx
      subst hx
      exact ⟨q, ⟨by omega, by simpa using h.rule⟩, hq, fun _ => rfl, fun h => absurd rfl h, h.tab⟩
    | succ r ih =>
      intro x hx
      have hr := (List.getElem?_eq_some_iff.1 hx).1
      obtain ⟨y, hy⟩ := get_some (show r < l.length by omega)
      obtain ⟨q1, h1, h2, h3, h4, h5⟩ := ih y hy
      obtain ⟨⟨qa, qb, a1, a2, a3, a4⟩, _⟩ := h.way.next r y x hy hx
      have e1 : qa = q1 := by
        have := a1.2.symm.trans h1.2
        injection this
      subst e1
      have hb := List.mem_of_getElem? a2.2
      refine ⟨qb, a2, hb, fun e => by omega, fun _ => ?_, ?_⟩
      · have hs : Plus (PassE g) qa.left.toNat qb.left.toNat := .one _ ⟨qa, h2, by have := (hp.left qa h2).1; omega, by rw [Int.toNat_of_nonneg (hp.left qb hb).1]; exact a3⟩
        by_cases e : r = 0
        · rw [h3 e] at hs; exact hs
        · exact (h4 e).trans hs
      · rw [show k - 1 - (r + 1) = k - 2 - r from by omega]; exact a4
  intro r x hx
  obtain ⟨q1, h1, h2, h3, h4, h5⟩ := key r x hx
  refine ⟨q1, h1, ?_⟩
  have hback := Stp.plus _ _ _ (tabR_stp _ q1 q.left.toNat h2 (hp.left q1 h2).1 hc0 h5)
  by_cases e : r = 0
  · have e2 := h3 e
    rw [e2] at hback ⊢
    exact hback
  · exact hback.trans (h4 e)
end Go.Proofs.Ytecofoilghdedaa
