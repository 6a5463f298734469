/- The reference's search (depth first) marks what the program's rounds mark. No program is named here. -/
import Derived.Test.YtpkfalhpkkponaaDoorTrimP
namespace Go.Proofs.YtpkfalhpkkponaaDoor
open Go.RowKit
set_option linter.unusedVariables false

/-- All that the good rules of a nonterminal lead to is marked. -/
def ClN (g : Gram) (p : Rule → Bool) (t : List Bool) (k : Nat) : Prop := ∀ q ∈ g.rules, q.left.toNat = k → p q = true → ∀ y ∈ q.right, y.term = false → t[y.n.toNat]? = some true
structure Grow (g : Gram) (p : Rule → Bool) (s t : List Bool) : Prop where
  len : t.length = s.length
  mono : ∀ k : Nat, s[k]? = some true → t[k]? = some true
  fresh : ∀ k : Nat, t[k]? = some true → s[k]? = some true ∨ (Rea g p k ∧ ClN g p t k)
theorem ClN.mono {g : Gram} {p : Rule → Bool} {s t : List Bool} {k : Nat} (h : ClN g p s k) (hm : ∀ k : Nat, s[k]? = some true → t[k]? = some true) : ClN g p t k :=
  fun q hq hl hp y hy ht => hm _ (h q hq hl hp y hy ht)
theorem Grow.refl (g : Gram) (p : Rule → Bool) (s : List Bool) : Grow g p s s := ⟨rfl, fun _ h => h, fun _ h => .inl h⟩
theorem Grow.trans {g : Gram} {p : Rule → Bool} {s t u : List Bool} (h : Grow g p s t) (k : Grow g p t u) : Grow g p s u :=
  ⟨k.len.trans h.len, fun i hi => k.mono i (h.mono i hi), fun i hi => by
    rcases k.fresh i hi with h1 | h1
    · rcases h.fresh i h1 with h2 | h2
      · exact .inl h2
      · exact .inr ⟨h2.1, h2.2.mono k.mono⟩
    · exact .inr h1⟩
theorem Grow.count {g : Gram} {p : Rule → Bool} {s t : List Bool} (h : Grow g p s t) : t.count false ≤ s.count false := by
  have key : ∀ (s t : List Bool), t.length = s.length → (∀ k : Nat, s[k]? = some true → t[k]? = some true) → t.count false ≤ s.count false := by
    intro s
    induction s with
    | nil => intro t hl _; have : t = [] := List.eq_nil_of_length_eq_zero (by simpa using hl); subst this; simp
    | cons a s ih =>
      intro t hl hm
      cases t with
      | nil => simp at hl
      | cons b t =>
        have h1 := ih t (by simpa using hl) (fun k hk => by have := hm (k + 1) (by simpa using hk); simpa using this)
        simp only [List.count_cons]
        cases a
        · cases b <;> simp <;> omega
        · have := hm 0 rfl
          simp at this
          subst this
          simpa using h1
  exact key s t h.len h.mono
/-- The whole of a visit that marks x and goes through all rules. -/
theorem Grow.visit {g : Gram} {p : Rule → Bool} {s t : List Bool} {x : Nat} (hx : x < s.length) (hr : Rea g p x) (h : Grow g p (s.set x true) t) (hc : ClN g p t x) : Grow g p s t ∧ t[x]? = some true := by
  have hs : ∀ k : Nat, s[k]? = some true → (s.set x true)[k]? = some true := fun k hk => by
    rw [List.getElem?_set]
    split
    · rename_i e; subst e; first | rfl | rw [if_pos hx]
    · exact hk
  refine ⟨⟨by rw [h.len, List.length_set], fun k hk => h.mono k (hs k hk), fun k hk => ?_⟩, h.mono x (by simp [hx])⟩
  rcases h.fresh k hk with h1 | h1
  · rw [List.getElem?_set] at h1
    split at h1
    · rename_i e; subst e; exact .inr ⟨hr, hc⟩
    · exact .inl h1
  · exact .inr h1
theorem set_count_lt {s : List Bool} {x : Nat} (h : s[x]? = some false) : (s.set x true).count false < s.count false := by
  have := rcount_set s x
  rw [if_pos h] at this
  omega
/-- The marked ones are those that are reached. -/
def RSet (g : Gram) (p : Rule → Bool) (n : Nat) (s : List Bool) : Prop := s.length = n ∧ ∀ k : Nat, k < n → (s[k]? = some true ↔ Rea g p k)
theorem RSet.of_grow {g : Gram} {p : Rule → Bool} {n : Nat} {t : List Bool} (h : Grow g p (List.replicate n false) t) (h0 : t[g.start.toNat]? = some true) : RSet g p n t := by
  have key : ∀ k : Nat, t[k]? = some true → Rea g p k ∧ ClN g p t k := fun k hk => by
    rcases h.fresh k hk with h1 | h1
    · rw [List.getElem?_replicate] at h1; split at h1 <;> simp at h1
    · exact h1
  refine ⟨by rw [h.len]; simp, fun k hk => ⟨fun h1 => (key k h1).1, fun h1 => ?_⟩⟩
  clear hk
  induction h1 with
  | start => exact h0
  | step q hq _ hp x hx ht ih => exact (key _ ih).2 q hq rfl hp x hx ht
theorem RFix.rset {g : Gram} {p : Rule → Bool} {n : Nat} {s : List Bool} (h : RFix g p n s) (hr : RulesIn g n) : RSet g p n s := by
  refine ⟨h.len, fun k hk => ⟨fun h1 => h.rea h1, fun h1 => ?_⟩⟩
  clear hk
  induction h1 with
  | start => exact h.start
  | step q hq _ hp x hx ht ih => exact h.closed hq ih hp hx ht ((hr q hq).2.2.2 x hx |>.2 ht)
theorem RSet.same {g : Gram} {p : Rule → Bool} {n : Nat} {s t : List Bool} (h : RSet g p n s) (k : RSet g p n t) : s = t := by
  apply List.ext_getElem?
  intro i
  by_cases hi : i < n
  · have h1 := (h.2 i hi).trans (k.2 i hi).symm
    obtain ⟨a, ha⟩ := get_some (show i < s.length by rw [h.1]; exact hi)
    obtain ⟨b, hb⟩ := get_some (show i < t.length by rw [k.1]; exact hi)
    rw [ha, hb] at h1 ⊢
    cases a <;> cases b <;> simp at h1 ⊢
  · rw [List.getElem?_eq_none (by rw [h.1]; omega), List.getElem?_eq_none (by rw [k.1]; omega)]
theorem Rea.congr {g : Gram} {p p' : Rule → Bool} (hp : ∀ q ∈ g.rules, p q = true → p' q = true) {k : Nat} (h : Rea g p k) : Rea g p' k := by
  induction h with
  | start => exact .start
  | step q hq _ hb x hx ht ih => exact .step q hq ih (hp q hq hb) x hx ht
theorem RSet.congr {g : Gram} {p p' : Rule → Bool} {n : Nat} {s : List Bool} (h : RSet g p n s) (hp : ∀ q ∈ g.rules, p q = p' q) : RSet g p' n s :=
  ⟨h.1, fun k hk => (h.2 k hk).trans ⟨fun h1 => h1.congr (fun q hq hb => by rw [← hp q hq]; exact hb), fun h1 => h1.congr (fun q hq hb => by rw [hp q hq]; exact hb)⟩⟩
end Go.Proofs.YtpkfalhpkkponaaDoor
