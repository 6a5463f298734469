/- Parts of slices, and slices of two slices, read. -/
import Derived.Test.YtpkfalhpkkponaaDoorApp
namespace Go.Proofs.YtpkfalhpkkponaaDoor
open Go.RowKit
set_option linter.unusedVariables false
section
variable {w : World} {S : Nat → Prop} {α : Type} [Dat α]
theorem Els.takeS {xs : List α} {A : Option Addr} (h : Els w S xs A) (n : Nat) : Els w S (xs.take n) A := by
  intro hne
  obtain ⟨b', o', e, hS, hx⟩ := h (by rintro rfl; simp at hne)
  refine ⟨b', o', e, hS, fun i y hi => hx i y ?_⟩
  rw [List.getElem?_take] at hi
  split at hi
  · exact hi
  · cases hi
theorem Els.dropS {xs : List α} {b o : Nat} (h : Els w S xs (some ⟨b, o, none⟩)) (n : Nat) : Els w S (xs.drop n) (some ⟨b, o + n * Dat.size α, none⟩) := by
  intro hne
  obtain ⟨b', o', e, hS, hx⟩ := h (by rintro rfl; simp at hne)
  injection e with e
  injection e with e1 e2 _
  subst e1; subst e2
  refine ⟨b, o + n * Dat.size α, rfl, hS, fun i y hi => ?_⟩
  rw [List.getElem?_drop] at hi
  obtain ⟨cs, h1, h2⟩ := hx _ y hi
  refine ⟨cs, h1, ?_⟩
  rw [show o + n * Dat.size α + i * Dat.size α = o + (n + i) * Dat.size α from by rw [Nat.add_mul]; omega]
  exact h2
theorem Els.nilS {A : Option Addr} : Els w S ([] : List α) A := fun h => absurd rfl h
/-- A row of a slice of slices. -/
theorem Els.rowS {xs : List (List α)} {A : Option Addr} (h : Els w S xs A) {k : Nat} {x : List α} (hk : xs[k]? = some x) :
    ∃ b o A' c, A = some ⟨b, o, none⟩ ∧ S b ∧ b < w.heap.size ∧ w.cell? ⟨b, o + k, none⟩ = some (.slice A' x.length c) ∧ x.length ≤ c ∧ c ≤ 9223372036854775807 ∧ Els w S x A' := by
  obtain ⟨b, o, cs, hA, hS, hb, ⟨A', c, rfl, h1, h2, h3⟩, hc⟩ := h.at_ hk
  refine ⟨b, o, A', c, hA, hS, hb, ?_, h1, by simpa [maxLen] using h2, h3⟩
  have := hc.c0
  rwa [show o + k * Dat.size (List α) = o + k from by show o + k * 1 = o + k; omega] at this
/-- A literal of two slices. -/
theorem els_pair {x y : List α} {A B : Option Addr} {c d : Nat} (t : TypeId) (hx : Els w S x A) (hy : Els w S y B) (hc : x.length ≤ c) (hc2 : c ≤ 9223372036854775807) (hd : y.length ≤ d) (hd2 : d ≤ 9223372036854775807) :
    Els (w.alloc (.cells #[.slice A x.length c, .slice B y.length d] t)) (fun b => S b ∨ b = w.heap.size) [x, y] (some ⟨w.heap.size, 0, none⟩) := fun _ => by
  have hb : Below w.heap.size w (w.alloc (.cells #[.slice A x.length c, .slice B y.length d] t)) := (Below.refl _ _).alloc (Nat.le_refl _) _
  refine ⟨w.heap.size, 0, rfl, .inr rfl, fun i z hi => ?_⟩
  match i, hi with
  | 0, hi =>
    simp at hi; subst hi
    refine ⟨[.slice A x.length c], ⟨A, c, rfl, hc, by simpa [maxLen] using hc2, (hx.below hb).keep (fun _ _ _ => rfl) (fun b h => .inl h)⟩, fun j u hu => ?_⟩
    match j, hu with
    | 0, hu => simp at hu; subst hu; rw [show 0 + 0 * Dat.size (List α) + 0 = 0 by omega]; exact (Blk'.new w t _).cell 0
  | 1, hi =>
    simp at hi; subst hi
    refine ⟨[.slice B y.length d], ⟨B, d, rfl, hd, by simpa [maxLen] using hd2, (hy.below hb).keep (fun _ _ _ => rfl) (fun b h => .inl h)⟩, fun j u hu => ?_⟩
    match j, hu with
    | 0, hu => simp at hu; subst hu; rw [show 0 + 1 * Dat.size (List α) + 0 = 1 from rfl]; exact (Blk'.new w t _).cell 1
end
end Go.Proofs.YtpkfalhpkkponaaDoor
