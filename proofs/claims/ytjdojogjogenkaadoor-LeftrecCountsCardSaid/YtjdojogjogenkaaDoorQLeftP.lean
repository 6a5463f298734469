/- Plain laws of the removal of direct left recursion. No program is named here. -/
import Derived.Test.YtjdojogjogenkaaDoorQw2
import Derived.Test.YtjdojogjogenkaaDoorQRecur
namespace Go.Proofs.YtjdojogjogenkaaDoor
open Go.RowKit
set_option linter.unusedVariables false
def recB (r : Rule) : Bool := decide (r.right[0]? = some ⟨false, r.left⟩)
def hasRec (g : Gram) (k : Nat) : Bool := g.rules.any (fun r => decide (r.left = (k : Int)) && recB r)
def cntRec (g : Gram) : Nat → Nat
 | 0 => 0
 | k + 1 => cntRec g k + if hasRec g k then 1 else 0
def tailI (g : Gram) (n k : Nat) : Int := if hasRec g k then ((n + cntRec g k : Nat) : Int) else -1
def tailsL (g : Gram) (n k : Nat) : List Int := (List.range k).map (tailI g n) ++ List.replicate (n - k) (-1)
def strR (g : Gram) (n : Nat) (r : Rule) : Rule :=
 if tailI g n r.left.toNat < 0 then r else if recB r then ⟨tailI g n r.left.toNat, r.right.drop 1 ++ [⟨false, tailI g n r.left.toNat⟩]⟩ else ⟨r.left, r.right ++ [⟨false, tailI g n r.left.toNat⟩]⟩
def endR (n c : Nat) : List Rule := (List.range c).map fun i : Nat => ⟨((n + i : Nat) : Int), []⟩
def strG (g : Gram) (n : Nat) : Gram := ⟨g.terms, ((n + cntRec g n : Nat) : Int), g.start, g.rules.map (strR g n) ++ endR n (cntRec g n)⟩
def idxL (k : Nat) : List Int := (List.range k).map fun i : Nat => (i : Int)
def fromL (g : Gram) (n : Nat) : List Int := idxL g.rules.length ++ List.replicate (cntRec g n) (-1)
theorem idxL_len (k : Nat) : (idxL k).length = k := by simp [idxL]
theorem idxL_snoc (k : Nat) : idxL (k + 1) = idxL k ++ [(k : Int)] := by simp [idxL, List.range_succ]
theorem endR_snoc (n c : Nat) : endR n (c + 1) = endR n c ++ [⟨((n + c : Nat) : Int), []⟩] := by simp [endR, List.range_succ]
theorem endR_len (n c : Nat) : (endR n c).length = c := by simp [endR]
theorem cntRec_le (g : Gram) : ∀ k, cntRec g k ≤ k
 | 0 => Nat.le_refl _
 | k + 1 => by
  have := cntRec_le g k
  unfold cntRec
  split <;> omega
theorem cntRec_mono (g : Gram) : ∀ {k j : Nat}, k ≤ j → cntRec g k ≤ cntRec g j
 | k, 0, h => by
  obtain rfl : k = 0 := by omega
  exact Nat.le_refl _
 | k, j + 1, h => by
  by_cases e : k = j + 1
  ·subst e; exact Nat.le_refl _
  ·have := cntRec_mono g (show k ≤ j by omega)
   have h1 : cntRec g (j + 1) = cntRec g j + if hasRec g j then 1 else 0 := rfl
   rw [h1]
   omega
theorem tailI_rng {g : Gram} {n k : Nat} : tailI g n k = -1 ∨ (n : Int) ≤ tailI g n k ∧ tailI g n k ≤ (n : Int) + k := by
 unfold tailI
 split
 ·have := cntRec_le g k
  exact .inr ⟨by omega, by omega⟩
 ·exact .inl rfl
theorem tailsL_len {g : Gram} {n k : Nat} (h : k ≤ n) : (tailsL g n k).length = n := by simp [tailsL]; omega
theorem tailsL_zero (g : Gram) (n : Nat) : tailsL g n 0 = List.replicate n (-1) := by simp [tailsL]
theorem tailsL_get {g : Gram} {n k j : Nat} (hj : j < n) (hk : k ≤ n) : (tailsL g n k)[j]? = some (if j < k then tailI g n j else -1) := by
 unfold tailsL
 rw [List.getElem?_append]
 simp only [List.length_map, List.length_range]
 split
 ·simp [*]
 ·rw [List.getElem?_replicate, if_pos (by omega)]
theorem tailsL_hit {g : Gram} {n k : Nat} (hk : k < n) (h : hasRec g k = true) : (tailsL g n k).set k ((n + cntRec g k : Nat) : Int) = tailsL g n (k + 1) := by
 apply List.ext_getElem?
 intro j
 by_cases hj : j < n
 ·rw [List.getElem?_set, tailsL_get hj (by omega), tailsL_get hj (by omega), tailsL_len (by omega)]
  by_cases e : k = j
  ·subst e
   simp [hk, tailI, h]
  ·rw [if_neg e]
   by_cases h1 : j < k
   ·rw [if_pos h1, if_pos (by omega)]
   ·rw [if_neg h1, if_neg (by omega)]
 ·rw [List.getElem?_eq_none (by rw [List.length_set, tailsL_len (by omega)]; omega), List.getElem?_eq_none (by rw [tailsL_len (by omega)]; omega)]
theorem tailsL_miss {g : Gram} {n k : Nat} (hk : k < n) (h : hasRec g k = false) : tailsL g n k = tailsL g n (k + 1) := by
 apply List.ext_getElem?
 intro j
 by_cases hj : j < n
 ·rw [tailsL_get hj (by omega), tailsL_get hj (by omega)]
  by_cases h1 : j < k
  ·rw [if_pos h1, if_pos (by omega)]
  ·rw [if_neg h1]
   by_cases e : j = k
   ·subst e
    rw [if_pos (by omega)]
    simp [tailI, h]
   ·rw [if_neg (by omega)]
 ·rw [List.getElem?_eq_none (by rw [tailsL_len (by omega)]; omega), List.getElem?_eq_none (by rw [tailsL_len (by omega)]; omega)]
theorem cntRec_hit {g : Gram} {k : Nat} (h : hasRec g k = true) : cntRec g (k + 1) = cntRec g k + 1 := by simp [cntRec, h]
theorem cntRec_miss {g : Gram} {k : Nat} (h : hasRec g k = false) : cntRec g (k + 1) = cntRec g k := by simp [cntRec, h]
theorem tail_rec {g : Gram} {n : Nat} {r : Rule} (hr : r ∈ g.rules) (h0 : 0 ≤ r.left) (h : recB r = true) : hasRec g r.left.toNat = true := by
 unfold hasRec
 rw [List.any_eq_true]
 exact ⟨r, hr, by rw [Bool.and_eq_true]; exact ⟨decide_eq_true (by omega), h⟩⟩
theorem PassN.led {g : Gram} {q : Rule} {c : Int} : PassN g q c → LedN g q c := by
 rintro ⟨i, h1, h2⟩
 exact ⟨i, h1, fun x hx => h2 x (List.mem_append.2 (.inl hx))⟩
theorem PassE.led {g : Gram} {a b : Nat} : PassE g a b → LedE g a b := by
 rintro ⟨q, hq, h1, h2⟩
 exact ⟨q, hq, h1, h2.led⟩
theorem Plus.map {E F : Nat → Nat → Prop} (h : ∀ a b, E a b → F a b) {a b : Nat} (p : Plus E a b) : Plus F a b := by
 induction p with
 | one b e => exact .one b (h _ _ e)
 | snoc b c _ e ih => exact .snoc b c ih (h _ _ e)
theorem noCyc_of_led {g : Gram} {n : Nat} (hp : PassIn g n) (h : ∀ a, ¬ Plus (LedE g) a a) : NoCyc g n :=
 (noCyc_iff hp).2 fun a ha => h a (Plus.map (fun _ _ => PassE.led) ha)
theorem FiltIs.nil {P : Nat → Prop} : ∀ (k : Nat) (l : List Int), FiltIs P k l → (∀ j, ¬ P j) → l = []
 | 0, l, h, _ => h
 | k + 1, l, ⟨l', h1, h2⟩, hP => by
  rcases h2 with ⟨h, _⟩ | ⟨_, rfl⟩
  ·exact absurd h (hP k)
  ·exact FiltIs.nil k l h1 hP
theorem FiltIs.none {P : Nat → Prop} : ∀ (k : Nat) (l : List Int), FiltIs P k l → l = [] → ∀ j, j < k → ¬ P j
 | 0, l, h, _, j, hj => absurd hj (Nat.not_lt_zero _)
 | k + 1, l, ⟨l', h1, h2⟩, hl, j, hj => by
  rcases h2 with ⟨h, e⟩ | ⟨h, e⟩
  ·subst hl; simp at e
  ·by_cases e' : j = k
   ·subst e'; exact h
   ·exact FiltIs.none k l' h1 (e ▸ hl) j (by omega)
inductive StrBad (g : Gram) (n : Nat) : Int → Prop where
 | loop (h : ¬ NoCyc g n) : StrBad g n 9
 | large (h : NoCyc g n) (h' : 10 < n + cntRec g n) : StrBad g n 2
 | chk (h : NoCyc g n) (h' : n + cntRec g n ≤ 10) (h3 : checkI (strG g n) ≠ 0) : StrBad g n (checkI (strG g n))
 | led (h : NoCyc g n) (h' : n + cntRec g n ≤ 10) (h3 : checkI (strG g n) = 0) (a : Nat) (h4 : Plus (LedE (strG g n)) a a) : StrBad g n 8
theorem StrBad.ne {g : Gram} {n : Nat} {k : Int} (h : StrBad g n k) : k ≠ 0 := by
 cases h with
 | loop => decide
 | large => decide
 | chk _ _ h => exact h
 | led => decide
structure StrOk (g : Gram) (n : Nat) : Prop where
 cyc : NoCyc g n
 len : n + cntRec g n ≤ 10
 chk : checkI (strG g n) = 0
 led : ∀ a, ¬ Plus (LedE (strG g n)) a a
theorem StrOk.not {g : Gram} {n : Nat} {k : Int} (h : StrOk g n) : ¬ StrBad g n k := by
 rintro (h' | ⟨_, h'⟩ | ⟨_, _, h'⟩ | ⟨_, _, _, a, h'⟩)
 ·exact h' h.cyc
 ·have := h.len; omega
 ·exact h' h.chk
 ·exact h.led a h'
def chK : Gram := ⟨2, 1, 0, [⟨0, [⟨false, 0⟩, ⟨true, 0⟩]⟩, ⟨0, [⟨true, 1⟩]⟩]⟩
theorem chK_str : strG chK 1 = ⟨2, 2, 0, [⟨1, [⟨true, 0⟩, ⟨false, 1⟩]⟩, ⟨0, [⟨true, 1⟩, ⟨false, 1⟩]⟩, ⟨1, []⟩]⟩ := by decide +kernel
theorem chK_chk : checkI chK = 0 := by decide +kernel
theorem chK_ok : StrOk chK 1 := by
 have hno : ∀ q ∈ chK.rules, ∀ c, ¬ PassN chK q c := by
  intro q hq c
  simp only [chK, List.mem_cons, List.not_mem_nil, or_false] at hq
  rintro ⟨i, h1, h2⟩
  rcases hq with rfl | rfl
  ·match i, h1 with
   | 0, _ => have := (h2 ⟨true, 0⟩ (by simp)).1; cases this
   | 1, h1 => simp at h1
   | i + 2, h1 => simp at h1
  ·match i, h1 with
   | 0, h1 => simp at h1
   | i + 1, h1 => simp at h1
 refine ⟨?_, by decide +kernel, by rw [chK_str]; decide +kernel, ?_⟩
 ·intro k h1 h2 q hq ht
  obtain rfl : k = 1 := by omega
  exact hno q hq _ ht
 ·intro a ha
  rw [chK_str] at ha
  have hE : ∀ x y, ¬ LedE ⟨2, 2, 0, [⟨1, [⟨true, 0⟩, ⟨false, 1⟩]⟩, ⟨0, [⟨true, 1⟩, ⟨false, 1⟩]⟩, ⟨1, []⟩]⟩ x y := by
   rintro x y ⟨q, hq, _, i, h1, h2⟩
   simp only [List.mem_cons, List.not_mem_nil, or_false] at hq
   rcases hq with rfl | rfl | rfl
   ·match i, h1 with
    | 0, h1 => simp at h1
    | i + 1, h1 => have := (h2 ⟨true, 0⟩ (by simp)).1; cases this
   ·match i, h1 with
    | 0, h1 => simp at h1
    | i + 1, h1 => have := (h2 ⟨true, 1⟩ (by simp)).1; cases this
   ·simp at h1
  cases ha with
  | one _ h => exact hE _ _ h
  | snoc _ _ _ h => exact hE _ _ h
end Go.Proofs.YtjdojogjogenkaaDoor
