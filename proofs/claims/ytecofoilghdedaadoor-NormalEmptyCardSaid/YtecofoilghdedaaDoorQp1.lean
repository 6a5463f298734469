/- Plain facts and definitions of this proof, of several texts joined: Mem, Data, Open, Opens, NormP, Elem, App, Kept, RegByHand, RegStage, FirstP, Bcells, RowBase, RowsM, RowMk, FollowP, WarP, CloP, NormL, RowK, NormMap, Idx, Two, TwoMany, NormO. -/
import Derived.WalkKit
import Derived.WalkSpells
import Derived.WalkLawsBesides
import Derived.Deep.Draws
import Derived.Lib.Hide
import Derived.Maps.AppendAt
import Derived.Test.YtecofoilghdedaaDoorRows
import Derived.ProofKit
import Derived.Deep.Slices
import Derived.Deep.Fields
import Derived.ChangeSame
import Derived.Test.YtecofoilghdedaaDoorChecked
import Derived.Lib.AppendZeros
import Derived.Deep.RegionHeld3
import Derived.Deep.RegionLaw
import Derived.Deep.LoopGhost
import Derived.StillTailTactics
import Derived.Maps.Own
import Derived.Maps.OwnSet
import Derived.DeepKeys4
/- How values in the model's memory read as plain data: a class of readable types, slices of them, and rows that the call itself owns and appends to. No program is named here. -/
namespace Go.Proofs.YtecofoilghdedaaDoor
open Go.RowKit

theorem ret_int {k : IntKind} {a b : Int} (h : a = b) : Ending.returned (.int k a) = .returned (.int k b) := by rw [h]
theorem ret_bool {a b : Bool} (h : a = b) : Ending.returned (.bool a) = .returned (.bool b) := by rw [h]
theorem drop_cons {α : Type} {xs : List α} {k : Nat} {x : α} (h : xs[k]? = some x) : xs.drop k = x :: xs.drop (k + 1) := by
  obtain ⟨hlt, rfl⟩ := List.getElem?_eq_some_iff.1 h
  exact List.drop_eq_getElem_cons hlt
theorem get_some {α : Type} {xs : List α} {k : Nat} (h : k < xs.length) : ∃ x, xs[k]? = some x := ⟨_, List.getElem?_eq_getElem h⟩
theorem take_snoc {α : Type} {xs : List α} {k : Nat} {x : α} (h : xs[k]? = some x) : xs.take (k + 1) = xs.take k ++ [x] := by
  rw [List.take_add_one, h]; rfl

def I64 (n : Int) : Prop := -9223372036854775808 ≤ n ∧ n ≤ 9223372036854775807

/-- The cells cs lie in block b from offset o on. -/
def At (w : World) (b o : Nat) (cs : List Value) : Prop := ∀ j u, cs[j]? = some u → w.cell? ⟨b, o + j, none⟩ = some u

/-- A type of data that can be read: how many cells a value has, and when cells read as it. S: the blocks that the reading may touch beyond the cells themselves. -/
class Dat (α : Type) where
  size : Nat
  wraps : Bool
  rd : World → (Nat → Prop) → α → List Value → Prop
  len : ∀ {w S x cs}, rd w S x cs → cs.length = size
  pos : 0 < size
  flat : wraps = false → size = 1
  one : ∀ {w S x cs}, rd w S x cs → ∀ u ∈ cs, u.oneCell' = true
  keep : ∀ {w w' : World} {S S' : Nat → Prop} {x cs}, (∀ p : Addr, S p.block → p.block < w.heap.size → w'.cell? p = w.cell? p) → (∀ b, S b → S' b) → rd w S x cs → rd w' S' x cs

/-- The value v reads as x. -/
def Vl {α : Type} [Dat α] (w : World) (S : Nat → Prop) (x : α) (v : Value) : Prop :=
  ∃ cs, Dat.rd w S x cs ∧ v = if Dat.wraps α then .agg cs.toArray else cs.headD undef

/-- What a slice's address must lead to. -/
def Els {α : Type} [Dat α] (w : World) (S : Nat → Prop) (xs : List α) (A : Option Addr) : Prop :=
  xs ≠ [] → ∃ b o, A = some ⟨b, o, none⟩ ∧ S b ∧ ∀ i x, xs[i]? = some x → ∃ cs, Dat.rd w S x cs ∧ At w b (o + i * Dat.size α) cs

section
variable {w w' : World} {S S' : Nat → Prop} {b o : Nat}

theorem At.lt {cs : List Value} (h : At w b o cs) (hl : 0 < cs.length) : b < w.heap.size := by
  have h0 := h 0 cs[0] (List.getElem?_eq_getElem hl)
  exact World.block_lt_of_cell? w _ h0
theorem At.keep {cs : List Value} (h : At w b o cs) (hk : ∀ p : Addr, p.block = b → w'.cell? p = w.cell? p) : At w' b o cs :=
  fun j u hu => (hk _ rfl).trans (h j u hu)
theorem At.c0 {v : Value} {l : List Value} (h : At w b o (v :: l)) : w.cell? ⟨b, o, none⟩ = some v := by simpa using h 0 v rfl
theorem At.c1 {v0 v : Value} {l : List Value} (h : At w b o (v0 :: v :: l)) : w.cell? ⟨b, o + 1, none⟩ = some v := by simpa using h 1 v rfl
theorem At.c2 {v0 v1 v : Value} {l : List Value} (h : At w b o (v0 :: v1 :: v :: l)) : w.cell? ⟨b, o + 2, none⟩ = some v := by simpa using h 2 v rfl
theorem At.c3 {v0 v1 v2 v : Value} {l : List Value} (h : At w b o (v0 :: v1 :: v2 :: v :: l)) : w.cell? ⟨b, o + 3, none⟩ = some v := by simpa using h 3 v rfl
theorem At.c4 {v0 v1 v2 v3 v : Value} {l : List Value} (h : At w b o (v0 :: v1 :: v2 :: v3 :: v :: l)) : w.cell? ⟨b, o + 4, none⟩ = some v := by simpa using h 4 v rfl
theorem At.d2 {v0 v1 v : Value} {l : List Value} (h : At w b o (v0 :: v1 :: v :: l)) : w.cell? ⟨b, o + 1 + 1, none⟩ = some v := h.c2
theorem At.d3 {v0 v1 v2 v : Value} {l : List Value} (h : At w b o (v0 :: v1 :: v2 :: v :: l)) : w.cell? ⟨b, o + 1 + 1 + 1, none⟩ = some v := h.c3

theorem Vl.keep {α : Type} [Dat α] {x : α} {v : Value} (h : Vl w S x v) (hk : ∀ p : Addr, S p.block → p.block < w.heap.size → w'.cell? p = w.cell? p) (hS : ∀ b, S b → S' b) : Vl w' S' x v := by
  obtain ⟨cs, h1, h2⟩ := h
  exact ⟨cs, Dat.keep hk hS h1, h2⟩
theorem Vl.below {α : Type} [Dat α] {x : α} {v : Value} (h : Vl w S x v) (hb : Below w.heap.size w w') : Vl w' S x v :=
  h.keep (fun _ _ hp => hb.cell hp) (fun _ h => h)
theorem Vl.belowB {α : Type} [Dat α] {x : α} {v : Value} {B : Nat} (h : Vl w S x v) (hb : Below B w w') (hS : ∀ b, S b → b < B) : Vl w' S x v :=
  h.keep (fun _ hs _ => hb.cell (hS _ hs)) (fun _ h => h)
theorem Vl.mono {α : Type} [Dat α] {x : α} {v : Value} (h : Vl w S x v) (hS : ∀ b, S b → S' b) : Vl w S' x v := h.keep (fun _ _ _ => rfl) hS

theorem Els.keep {α : Type} [Dat α] {xs : List α} {A : Option Addr} (h : Els w S xs A) (hk : ∀ p : Addr, S p.block → p.block < w.heap.size → w'.cell? p = w.cell? p) (hS : ∀ b, S b → S' b) : Els w' S' xs A := by
  intro hne
  obtain ⟨b, o, hA, hb, hx⟩ := h hne
  refine ⟨b, o, hA, hS _ hb, fun i x hi => ?_⟩
  obtain ⟨cs, h1, h2⟩ := hx i x hi
  have hlt : b < w.heap.size := h2.lt (by rw [Dat.len h1]; exact Dat.pos)
  exact ⟨cs, Dat.keep hk hS h1, h2.keep fun p hp => hk p (hp ▸ hb) (hp ▸ hlt)⟩
theorem Els.below {α : Type} [Dat α] {xs : List α} {A : Option Addr} (h : Els w S xs A) (hb : Below w.heap.size w w') : Els w' S xs A :=
  h.keep (fun _ _ hp => hb.cell hp) (fun _ h => h)
theorem Els.belowB {α : Type} [Dat α] {xs : List α} {A : Option Addr} {B : Nat} (h : Els w S xs A) (hb : Below B w w') (hS : ∀ b, S b → b < B) : Els w' S xs A :=
  h.keep (fun _ hs _ => hb.cell (hS _ hs)) (fun _ h => h)
theorem Els.at_ {α : Type} [Dat α] {xs : List α} {A : Option Addr} (h : Els w S xs A) {k : Nat} {x : α} (hk : xs[k]? = some x) :
    ∃ b o cs, A = some ⟨b, o, none⟩ ∧ S b ∧ b < w.heap.size ∧ Dat.rd w S x cs ∧ At w b (o + k * Dat.size α) cs := by
  obtain ⟨b, o, hA, hb, hx⟩ := h (by rintro rfl; simp at hk)
  obtain ⟨cs, h1, h2⟩ := hx k x hk
  exact ⟨b, o, cs, hA, hb, h2.lt (by rw [Dat.len h1]; exact Dat.pos), h1, h2⟩
end

/-! ### Instances -/
instance instDatInt : Dat Int where
  size := 1
  wraps := false
  rd _ _ n cs := cs = [.int .i64 n] ∧ I64 n
  len h := by rw [h.1]; rfl
  pos := by decide
  flat _ := rfl
  one h := by rw [h.1]; intro u hu; simp at hu; subst hu; rfl
  keep _ _ h := h
instance instDatBool : Dat Bool where
  size := 1
  wraps := false
  rd _ _ n cs := cs = [.bool n]
  len h := by rw [h]; rfl
  pos := by decide
  flat _ := rfl
  one h := by rw [h]; intro u hu; simp at hu; subst hu; rfl
  keep _ _ h := h
instance instDatList {α : Type} [Dat α] : Dat (List α) where
  size := 1
  wraps := false
  rd w S xs cs := ∃ A c, cs = [.slice A xs.length c] ∧ xs.length ≤ c ∧ c ≤ maxLen ∧ Els w S xs A
  len h := by obtain ⟨A, c, rfl, _⟩ := h; rfl
  pos := by decide
  flat _ := rfl
  one h := by obtain ⟨A, c, rfl, _⟩ := h; intro u hu; simp at hu; subst hu; rfl
  keep hk hS h := by
    obtain ⟨A, c, h1, h2, h3, h4⟩ := h
    exact ⟨A, c, h1, h2, h3, h4.keep hk hS⟩

section
variable {w w' : World} {S S' : Nat → Prop} {b o : Nat}
theorem Vl.slice {α : Type} [Dat α] {xs : List α} {v : Value} (h : Vl w S xs v) : ∃ A c, v = .slice A xs.length c ∧ xs.length ≤ c ∧ c ≤ 9223372036854775807 ∧ Els w S xs A := by
  obtain ⟨cs, ⟨A, c, rfl, h2, h3, h4⟩, hv⟩ := h
  exact ⟨A, c, hv, h2, by simpa [maxLen] using h3, h4⟩
theorem Vl.of_slice {α : Type} [Dat α] {xs : List α} {A : Option Addr} {n c : Nat} (hn : n = xs.length) (h2 : xs.length ≤ c) (h3 : c ≤ 9223372036854775807) (h : Els w S xs A) : Vl w S xs (.slice A n c) :=
  ⟨_, ⟨A, c, rfl, h2, by simpa [maxLen] using h3, h⟩, by subst hn; rfl⟩
theorem Vl.els {α : Type} [Dat α] {w : World} {S : Nat → Prop} {xs : List α} {A : Option Addr} {n c : Nat} (h : Vl w S xs (.slice A n c)) : n = xs.length ∧ xs.length ≤ c ∧ c ≤ 9223372036854775807 ∧ Els w S xs A := by
  obtain ⟨A', c', e, h1, h2, h3⟩ := h.slice
  injection e with e1 e2 e3
  subst e1; subst e2; subst e3
  exact ⟨rfl, h1, h2, h3⟩
theorem Vl.nil {α : Type} [Dat α] : Vl w S ([] : List α) (.slice none 0 0) := Vl.of_slice rfl (by simp) (by omega) (fun h => absurd rfl h)
theorem Vl.int {n : Int} {v : Value} (h : Vl w S n v) : v = .int .i64 n ∧ I64 n := by
  obtain ⟨cs, ⟨rfl, h1⟩, hv⟩ := h
  exact ⟨hv, h1⟩
theorem Vl.of_int {n : Int} (h : I64 n) : Vl w S n (.int .i64 n) := ⟨[.int .i64 n], ⟨rfl, h⟩, rfl⟩
theorem Vl.bool {n : Bool} {v : Value} (h : Vl w S n v) : v = .bool n := by
  obtain ⟨cs, rfl, hv⟩ := h
  exact hv
theorem Vl.of_bool (n : Bool) : Vl w S n (.bool n) := ⟨[.bool n], rfl, rfl⟩
/-- A slice cell among the cells of a struct. -/
theorem rd_slice {α : Type} [Dat α] {xs : List α} {cs : List Value} (h : Dat.rd w S xs cs) : ∃ v, cs = [v] ∧ Vl w S xs v := by
  obtain ⟨A, c, rfl, h2, h3, h4⟩ := h
  exact ⟨_, rfl, _, ⟨A, c, rfl, h2, h3, h4⟩, rfl⟩
theorem rd_of_slice {α : Type} [Dat α] {xs : List α} {v : Value} (h : Vl w S xs v) : Dat.rd w S xs [v] := by
  obtain ⟨cs, ⟨A, c, rfl, h2, h3, h4⟩, hv⟩ := h
  exact ⟨A, c, by rw [hv]; rfl, h2, h3, h4⟩
end

/-! ### Rows that the call owns -/
/-- v is a slice of the call's own (nil, or in a block from base on, at its head) whose elements read as xs; what they lead to lies in S or in other blocks from base on. -/
def OwnT (S : Nat → Prop) (base : Nat) (v : Value) (w : World) (b : Nat) : Prop := (S b ∨ base ≤ b) ∧ v.ownBlock ≠ some b ∧ b < w.heap.size
def Own {α : Type} [Dat α] (w : World) (S : Nat → Prop) (base : Nat) (e : TypeId) (v : Value) (xs : List α) : Prop :=
  ∃ css : List (List Value), w.ownsRow base e (Dat.size α) v xs.length css.flatten ∧ css.length = xs.length ∧
    ∀ (i : Nat) (x : α) (cs : List Value), xs[i]? = some x → css[i]? = some cs → Dat.rd w (OwnT S base v w) x cs

theorem Own.nil {α : Type} [Dat α] (w : World) (S : Nat → Prop) (base : Nat) (e : TypeId) : Own w S base e (.slice none 0 0) ([] : List α) :=
  ⟨[], World.ownsRow_nil w base e _, rfl, fun i x cs h => by simp at h⟩

theorem flat_get {size : Nat} : ∀ (css : List (List Value)) (_ : ∀ cs ∈ css, cs.length = size) (i j : Nat) (cs : List Value) (u : Value), css[i]? = some cs → cs[j]? = some u → css.flatten[i * size + j]? = some u
  | [], _, i, j, cs, u, h, _ => by simp at h
  | c :: css, hl, 0, j, cs, u, h, hu => by
    simp at h
    subst h
    have hj := (List.getElem?_eq_some_iff.1 hu).1
    simp only [List.flatten_cons, Nat.zero_mul, Nat.zero_add]
    rw [List.getElem?_append_left hj]
    exact hu
  | c :: css, hl, i + 1, j, cs, u, h, hu => by
    have hc : c.length = size := hl c (by simp)
    have ih := flat_get css (fun cs hcs => hl cs (by simp [hcs])) i j cs u (by simpa using h) hu
    simp only [List.flatten_cons]
    rw [List.getElem?_append_right (by rw [hc, Nat.add_mul]; omega), hc, Nat.add_mul]
    rw [show i * size + 1 * size + j - size = i * size + j from by omega]
    exact ih

section
variable {w w' : World} {S S' : Nat → Prop} {base : Nat} {e : TypeId} {v : Value} {α : Type} [Dat α] {xs : List α}

theorem Own.block (h : Own w S base e v xs) : ∀ k, v.ownBlock = some k → base ≤ k ∧ k < w.heap.size := by
  obtain ⟨css, h1, _⟩ := h
  exact h1.lt
theorem Own.form (h : Own w S base e v xs) : ∃ A c, v = .slice A xs.length c ∧ xs.length ≤ c ∧ c ≤ 9223372036854775807 ∧ (xs = [] ∨ ∃ g, A = some ⟨g, 0, none⟩ ∧ base ≤ g ∧ g < w.heap.size) := by
  obtain ⟨css, h1, h2, _⟩ := h
  rcases h1.2 with ⟨rfl, hn⟩ | ⟨g, cap, cur, rfl, hg, hh, hnc, hcm, _⟩
  · refine ⟨none, 0, by rw [hn], by omega, by omega, .inl (List.eq_nil_of_length_eq_zero hn)⟩
  · exact ⟨_, cap, rfl, hnc, by simpa [maxLen] using hcm, .inr ⟨g, rfl, hg, (Array.getElem?_eq_some_iff.1 hh).1⟩⟩
/-- An own row reads as a slice. -/
theorem Own.vl (h : Own w S base e v xs) : Vl w (fun b => (S b ∨ base ≤ b) ∧ b < w.heap.size) xs v := by
  obtain ⟨css, h1, h2, h3⟩ := h
  have hcl : ∀ cs ∈ css, cs.length = Dat.size α := by
    intro cs hcs
    obtain ⟨i, hi, rfl⟩ := List.getElem_of_mem hcs
    have hx : xs[i]? = some (xs[i]'(by omega)) := List.getElem?_eq_getElem (by omega)
    exact Dat.len (h3 i _ _ hx (List.getElem?_eq_getElem hi))
  rcases h1.2 with ⟨rfl, hn⟩ | ⟨g, cap, cur, rfl, hg, hh, hnc, hcm, _⟩
  · have : xs = [] := List.eq_nil_of_length_eq_zero hn
    subst this
    exact Vl.nil
  · refine Vl.of_slice rfl hnc (by simpa [maxLen] using hcm) fun _ => ⟨g, 0, rfl, ⟨.inr hg, (Array.getElem?_eq_some_iff.1 hh).1⟩, fun i x hi => ?_⟩
    have hil : i < css.length := by have := (List.getElem?_eq_some_iff.1 hi).1; omega
    have hci : css[i]? = some css[i] := List.getElem?_eq_getElem hil
    refine ⟨css[i], Dat.keep (fun _ _ _ => rfl) (fun b hb => ⟨hb.1, hb.2.2⟩) (h3 i x _ hi hci), fun j u hu => ?_⟩
    have hf := flat_get css hcl i j _ u hci hu
    have hc := h1.cells (g := g) rfl _ _ hf
    have hadd : (⟨g, 0, none⟩ : Addr).add (i * Dat.size α + j) = ⟨g, 0 + i * Dat.size α + j, none⟩ := by
      unfold Addr.add
      split
      · rename_i h0; simp only [Nat.zero_add, h0]
      · simp only [Nat.zero_add]
    rw [← hadd]
    exact hc
/-- An own row's element, for a load. -/
theorem Own.at_ (h : Own w S base e v xs) {k : Nat} {x : α} (hk : xs[k]? = some x) : ∃ g c cs, v = .slice (some ⟨g, 0, none⟩) xs.length c ∧ base ≤ g ∧ g < w.heap.size ∧ Dat.rd w (OwnT S base v w) x cs ∧ At w g (k * Dat.size α) cs := by
  obtain ⟨css, h1, h2, h3⟩ := h
  have hcl : ∀ cs ∈ css, cs.length = Dat.size α := by
    intro cs hcs
    obtain ⟨i, hi, rfl⟩ := List.getElem_of_mem hcs
    have hx : xs[i]? = some (xs[i]'(by omega)) := List.getElem?_eq_getElem (by omega)
    exact Dat.len (h3 i _ _ hx (List.getElem?_eq_getElem hi))
  rcases h1.2 with ⟨rfl, hn⟩ | ⟨g, cap, cur, rfl, hg, hh, hnc, hcm, _⟩
  · have : xs = [] := List.eq_nil_of_length_eq_zero hn
    subst this
    simp at hk
  · have hil : k < css.length := by have := (List.getElem?_eq_some_iff.1 hk).1; omega
    have hci : css[k]? = some css[k] := List.getElem?_eq_getElem hil
    refine ⟨g, cap, css[k], rfl, hg, (Array.getElem?_eq_some_iff.1 hh).1, h3 k x _ hk hci, fun j u hu => ?_⟩
    have hf := flat_get css hcl k j _ u hci hu
    have hc := h1.cells (g := g) rfl _ _ hf
    have hadd : (⟨g, 0, none⟩ : Addr).add (k * Dat.size α + j) = ⟨g, k * Dat.size α + j, none⟩ := by
      unfold Addr.add
      split
      · rename_i h0; simp only [h0]
      · simp only [Nat.zero_add]
    rw [← hadd]
    exact hc
theorem Own.grown {row : Option Nat} (h : Own w S base e v xs) (hg : w.grownBy w' row) (hne : ∀ k, row = some k → v.ownBlock ≠ some k ∧ ¬ (S k ∨ base ≤ k)) : Own w' S base e v xs := by
  obtain ⟨css, h1, h2, h3⟩ := h
  refine ⟨css, h1.kept hg ?_, h2, fun i x cs hi hc => Dat.keep (fun p hp hlt => ?_) (fun b hb => ⟨hb.1, hb.2.1, Nat.lt_of_lt_of_le hb.2.2 hg.size⟩) (h3 i x cs hi hc)⟩
  · cases hv : v.ownBlock with
    | none => exact .inl rfl
    | some k => exact .inr (fun e => (hne k e.symm).1 hv)
  · exact World.cell?_of_block (hg.block p.block hlt (fun e => (hne _ e.symm).2 hp.1))
theorem Own.below {B : Nat} (h : Own w S base e v xs) (hb : Below B w w') (hB : w.heap.size ≤ B) : Own w' S base e v xs := by
  obtain ⟨css, h1, h2, h3⟩ := h
  refine ⟨css, h1.kept (row := none) ⟨hb.os, hb.tape, hb.output, hb.size, fun k hk _ => hb.block k (by omega)⟩ ?_, h2, fun i x cs hi hc => Dat.keep (fun p hp hlt => hb.cell (by omega)) (fun b hb' => ⟨hb'.1, hb'.2.1, Nat.lt_of_lt_of_le hb'.2.2 hb.size⟩) (h3 i x cs hi hc)⟩
  cases hv : v.ownBlock <;> simp
theorem Own.alloc (h : Own w S base e v xs) (o : Obj) : Own (w.alloc o) S base e v xs := h.below ((Below.refl w.heap.size w).alloc (Nat.le_refl _) o) (Nat.le_refl _)
theorem Own.drew (h : Own w S base e v xs) : Own w.drew S base e v xs := h.below ((Below.refl w.heap.size w).drew) (Nat.le_refl _)
/-- A store elsewhere: into a block that no element leads to. -/
theorem Own.setCell (h : Own w S base e v xs) {p : Addr} (hp : v.ownBlock ≠ some p.block) (hS : ¬ (S p.block ∨ base ≤ p.block)) (u : Value) : Own (w.setCell p u) S base e v xs :=
  h.grown (row := some p.block) ⟨rfl, rfl, rfl, by simp [World.setCell], fun k _ hk => Below.heap_setCell _ _ _ _ (fun e => hk (by rw [e]))⟩ (fun k hk => by cases hk; exact ⟨hp, hS⟩)
end

/-- What the program's tables say of the slice type t with elements e. -/
def ElemT (P : Program) (α : Type) [Dat α] (t e : TypeId) (bytes : Nat) : Prop :=
  ∃ i z, P.underlying t = some (.slice e) ∧ P.info? e = some i ∧ i.zero = some z ∧ i.size = Dat.size α ∧ i.bytes = bytes ∧ z.cells.size = Dat.size α

section
variable {P : Program} {w : World} {S : Nat → Prop} {base : Nat} {α : Type} [Dat α]

theorem own_snoc {e : TypeId} {v v' : Value} {w' : World} {xs : List α} {x : α} {css : List (List Value)} {cs : List Value}
    (h2 : css.length = xs.length) (h3 : ∀ (i : Nat) (x : α) (cs : List Value), xs[i]? = some x → css[i]? = some cs → Dat.rd w (OwnT S base v w) x cs)
    (hrd : Dat.rd w (OwnT S base v w) x cs) (hown : w'.ownsRow base e (Dat.size α) v' (xs.length + 1) (css.flatten ++ cs))
    (hg : w.grownBy w' v.ownBlock) (hat : v'.ownBlock = v.ownBlock ∨ v'.ownBlock = some w.heap.size) : Own w' S base e v' (xs ++ [x]) := by
  have hkeep : ∀ {y : α} {ds : List Value}, Dat.rd w (OwnT S base v w) y ds → Dat.rd w' (OwnT S base v' w') y ds := fun hy =>
    Dat.keep (fun p hp hlt => World.cell?_of_block (hg.block p.block hlt (fun e => hp.2.1 e.symm))) (fun b hb => ⟨hb.1, by
      rcases hat with e | e
      · rw [e]; exact hb.2.1
      · rw [e]; intro h; injection h with h; have := hb.2.2; omega, Nat.lt_of_lt_of_le hb.2.2 hg.size⟩) hy
  refine ⟨css ++ [cs], by simpa using hown, by simp [h2], fun i y ds hi hd => ?_⟩
  rcases Nat.lt_or_ge i xs.length with hlt | hge
  · rw [List.getElem?_append_left hlt] at hi
    rw [List.getElem?_append_left (by omega)] at hd
    exact hkeep (h3 i y ds hi hd)
  · have hi' : i = xs.length := by
      have := (List.getElem?_eq_some_iff.1 hi).1
      simp at this; omega
    subst hi'
    simp at hi
    rw [List.getElem?_append_right (by omega)] at hd
    simp [h2] at hd
    subst hi; subst hd
    exact hkeep hrd

/-- append of one element that lies at the head of a block of its own. -/
theorem run_own1 {t ty e : TypeId} {bytes : Nat} (hT : ElemT P α t e bytes) {v : Value} {xs : List α} {x : α} {cs : List Value} {g c : Nat} (hown : Own w S base e v xs)
    (hat : At w g 0 cs) (hrd : Dat.rd w (OwnT S base v w) x cs) (hlen : (xs.length + 1) * bytes ≤ 140737488355328) (hmax : xs.length + 1 ≤ 9223372036854775807) (hbase : base ≤ w.heap.size) :
    ∃ v' w', (Builtin.append_ #[t, t] ty #[v, .slice (some ⟨g, 0, none⟩) 1 c]).run P w = .ok v' w' ∧ Own w' S base e v' (xs ++ [x]) ∧ w.grownBy w' v.ownBlock ∧ (v'.ownBlock = v.ownBlock ∨ v'.ownBlock = some w.heap.size) := by
  obtain ⟨i, z, ht, hi, hz, hsize, hby, hzs⟩ := hT
  obtain ⟨css, h1, h2, h3⟩ := hown
  have hcl := Dat.len hrd
  obtain ⟨v', w', hr, ho, hg, _, h5⟩ := run_append_own_at (P := P) w base t ty e i z (Dat.size α) bytes ht hi hz hsize hby hzs Dat.pos v xs.length css.flatten h1 ⟨g, 0, none⟩ 1 c cs (by omega)
    (by intro j u hu; have h := hat j u hu; have hadd : (⟨g, 0, none⟩ : Addr).add j = ⟨g, 0 + j, none⟩ := by unfold Addr.add; split <;> simp_all
        rw [hadd]; exact h) (Dat.one hrd) (by simpa [maxLen] using hmax) hlen hbase
  exact ⟨v', w', hr, own_snoc h2 h3 hrd ho hg h5, hg, h5⟩
end

section
variable {P : Program} (w : World) {S : Nat → Prop} {base : Nat} {α : Type} [Dat α]
theorem wp_own1 {o : Oper} {a : Act} {K : Act → World → Prop} {Q : Exit → Act → World → Prop} (s xo : Operand) {t e : TypeId} {bytes : Nat} (hT : ElemT P α t e bytes)
    (ho : o.op = .call { callee := .builtin .append, args := #[s, xo], argTypes := #[t, t] })
    {v : Value} {xs : List α} (hs : a.eval s = v) (hown : Own w S base e v xs) (x : α) (cs : List Value) {g c : Nat} (hx : a.eval xo = .slice (some ⟨g, 0, none⟩) 1 c)
    (hat : At w g 0 cs) (hrd : Dat.rd w (OwnT S base v w) x cs) (hlen : (xs.length + 1) * bytes ≤ 140737488355328) (hmax : xs.length + 1 ≤ 9223372036854775807) (hbase : base ≤ w.heap.size)
    (h : ∀ v' w', Own w' S base e v' (xs ++ [x]) → w.grownBy w' v.ownBlock → (v'.ownBlock = v.ownBlock ∨ v'.ownBlock = some w.heap.size) → K (a.put o.dst v') w') : o.wp P a w K Q := by
  obtain ⟨v', w', hrun, h2, h3, h4⟩ := run_own1 (ty := o.type) (c := c) hT hown hat hrd hlen hmax hbase
  unfold Oper.wp execOp
  simp only [ho, resolve, invoke, builtin, Sem.run_bind, Sem.run_pure, Result.andThen_ok, List.map_toArray, List.map_cons, List.map_nil, hs, hx, hrun]
  exact h v' w' h2 h3 h4
theorem wpList_own1 {ops : Array Oper} {rest : List Oper} {o : Oper} {a : Act} {Q : Exit → Act → World → Prop} (hgd : o.guard = none) (s xo : Operand) {t e : TypeId} {bytes : Nat} (hT : ElemT P α t e bytes)
    (ho : o.op = .call { callee := .builtin .append, args := #[s, xo], argTypes := #[t, t] })
    {v : Value} {xs : List α} (hs : a.eval s = v) (hown : Own w S base e v xs) (x : α) (cs : List Value) {g c : Nat} (hx : a.eval xo = .slice (some ⟨g, 0, none⟩) 1 c)
    (hat : At w g 0 cs) (hrd : Dat.rd w (OwnT S base v w) x cs) (hlen : (xs.length + 1) * bytes ≤ 140737488355328) (hmax : xs.length + 1 ≤ 9223372036854775807) (hbase : base ≤ w.heap.size)
    (h : ∀ v' w', Own w' S base e v' (xs ++ [x]) → w.grownBy w' v.ownBlock → (v'.ownBlock = v.ownBlock ∨ v'.ownBlock = some w.heap.size) → wpList P ops Q rest (a.put o.dst v') w') : wpList P ops Q (o :: rest) a w :=
  wpList_plain hgd fun _ hK => wp_own1 w s xo hT ho hs hown x cs hx hat hrd hlen hmax hbase fun v' w' h2 h3 h4 => hK _ _ (h v' w' h2 h3 h4)
theorem step_own1 {ops : Array Oper} {o : Oper} {a : Act} {K : Act → World → Prop} {Q : Exit → Act → World → Prop} {E : Prop} (hgd : o.guard = none) (s xo : Operand) {t e : TypeId} {bytes : Nat} (hT : ElemT P α t e bytes)
    (ho : o.op = .call { callee := .builtin .append, args := #[s, xo], argTypes := #[t, t] })
    {v : Value} {xs : List α} (hs : a.eval s = v) (hown : Own w S base e v xs) (x : α) (cs : List Value) {g c : Nat} (hx : a.eval xo = .slice (some ⟨g, 0, none⟩) 1 c)
    (hat : At w g 0 cs) (hrd : Dat.rd w (OwnT S base v w) x cs) (hlen : (xs.length + 1) * bytes ≤ 140737488355328) (hmax : xs.length + 1 ≤ 9223372036854775807) (hbase : base ≤ w.heap.size)
    (h : ∀ v' w', Own w' S base e v' (xs ++ [x]) → w.grownBy w' v.ownBlock → (v'.ownBlock = v.ownBlock ∨ v'.ownBlock = some w.heap.size) → K (a.put o.dst v') w') :
    if Region.wanted o (yielded ops a.tmps) = true then Oper.wp P o a w K Q else E := by
  have hw : Region.wanted o (yielded ops a.tmps) = true := by simp [Region.wanted, hgd]
  rw [if_pos hw]
  exact wp_own1 w s xo hT ho hs hown x cs hx hat hrd hlen hmax hbase h
end

theorem bcell {W w1 : World} {n : Nat} (hb : Below n W w1) : (∀ b o, b < n → w1.cell? ⟨b, o, none⟩ = W.cell? ⟨b, o, none⟩) ∧ (∀ b o, b < n → w1.frozen? ⟨b, o, none⟩ = W.frozen? ⟨b, o, none⟩) :=
  ⟨fun b o h => hb.cell (p := ⟨b, o, none⟩) h, fun b o h => hb.frozen (p := ⟨b, o, none⟩) h⟩
theorem bdrewN {B n : Nat} {a w : World} (h : Below B a w) : Below B a (w.drewN n) := ⟨h.os, h.tape, h.output, h.size, h.block⟩
/-- A block that is known whole. -/
def Blk' (w : World) (g : Nat) (t : TypeId) (cs : Array Value) : Prop := w.heap[g]? = some (.cells cs t (0, 0))
section
variable {w w' : World} {g : Nat} {t : TypeId} {cs : Array Value}
theorem Blk'.lt (h : Blk' w g t cs) : g < w.heap.size := by
  rcases Nat.lt_or_ge g w.heap.size with hlt | hge
  · exact hlt
  · unfold Blk' at h; rw [Array.getElem?_eq_none hge] at h; cases h
theorem Blk'.cell (h : Blk' w g t cs) (i : Nat) : w.cell? ⟨g, i, none⟩ = cs[i]? := cell_of_row w g i cs t (0, 0) h
theorem Blk'.frozen (h : Blk' w g t cs) (i : Nat) : w.frozen? ⟨g, i, none⟩ = false := by
  unfold Blk' at h
  simp [World.frozen?, h]
theorem Blk'.new (w : World) (t : TypeId) (cs : Array Value) : Blk' (w.alloc (.cells cs t)) w.heap.size t cs := heap_alloc_new w _
theorem Blk'.new' (w : World) (t : TypeId) (cs : Array Value) (h : g = w.heap.size) : Blk' (w.alloc (.cells cs t)) g t cs := by subst h; exact heap_alloc_new w _
theorem Blk'.drew (h : Blk' w g t cs) : Blk' w.drew g t cs := h
theorem Blk'.drewN (h : Blk' w g t cs) (n : Nat) : Blk' (w.drewN n) g t cs := h
theorem Blk'.alloc (h : Blk' w g t cs) (o : Obj) : Blk' (w.alloc o) g t cs := (Below.heap_alloc w o g h.lt).trans h
theorem Blk'.set_ (h : Blk' w g t cs) (i : Nat) (u : Value) : Blk' (w.setCell ⟨g, i, none⟩ u) g t (cs.setIfInBounds i u) := by
  unfold Blk' at h ⊢
  simp [World.setCell, Array.getElem?_modify, h]
theorem Blk'.far (h : Blk' w g t cs) {p : Addr} (hp : g ≠ p.block) (u : Value) : Blk' (w.setCell p u) g t cs := (Below.heap_setCell w p u g hp).trans h
theorem Blk'.below {B : Nat} (h : Blk' w g t cs) (hb : Below B w w') (hg : g < B) : Blk' w' g t cs := (hb.block g hg).trans h
theorem Blk'.grown {row : Option Nat} (h : Blk' w g t cs) (hb : w.grownBy w' row) (hg : some g ≠ row) : Blk' w' g t cs := (hb.block g h.lt hg).trans h
theorem only_drew {row : Option Nat} {a : World} (h : a.grownBy w row) : a.grownBy w.drew row := ⟨h.os, h.tape, h.output, h.size, h.block⟩
theorem only_drewN {row : Option Nat} {a : World} (h : a.grownBy w row) (n : Nat) : a.grownBy (w.drewN n) row := ⟨h.os, h.tape, h.output, h.size, h.block⟩
theorem only_alloc {row : Option Nat} {a : World} (h : a.grownBy w row) (o : Obj) : a.grownBy (w.alloc o) row :=
  ⟨h.os, h.tape, h.output, Nat.le_trans h.size (by simp), fun i hi hne => (Below.heap_alloc w o i (Nat.lt_of_lt_of_le hi h.size)).trans (h.block i hi hne)⟩
theorem only_setCell {row : Option Nat} {a : World} (h : a.grownBy w row) {p : Addr} (hp : row = some p.block ∨ a.heap.size ≤ p.block) (u : Value) : a.grownBy (w.setCell p u) row :=
  ⟨h.os, h.tape, h.output, by simpa [World.setCell] using h.size, fun i hi hne => (Below.heap_setCell w p u i (by
    rintro rfl
    rcases hp with hp | hp
    · exact hne (by rw [hp])
    · omega)).trans (h.block i hi hne)⟩
/-- A later step that turns only blocks that came after a, or the row. -/
theorem only_then {row row' : Option Nat} {a : World} (h : a.grownBy w row) (k : w.grownBy w' row') (hr : row' = row ∨ ∀ i, row' = some i → a.heap.size ≤ i) : a.grownBy w' row :=
  ⟨k.os.trans h.os, k.tape.trans h.tape, k.output.trans h.output, Nat.le_trans h.size k.size, fun i hi hne => (k.block i (Nat.lt_of_lt_of_le hi h.size) (by
    rcases hr with rfl | hr
    · exact hne
    · intro e; have := hr i e.symm; omega)).trans (h.block i hi hne)⟩
theorem only_below {row : Option Nat} {a : World} {B : Nat} (h : a.grownBy w row) (k : Below B w w') (hB : a.heap.size ≤ B) : a.grownBy w' row :=
  ⟨k.os.trans h.os, k.tape.trans h.tape, k.output.trans h.output, Nat.le_trans h.size k.size, fun i hi hne => (k.block i (by omega)).trans (h.block i hi hne)⟩
end
theorem bundrew {B : Nat} {a w : World} (h : Below B a.drew w) : Below B a w := ⟨h.os, h.tape, h.output, h.size, h.block⟩
theorem bundrewN {B n : Nat} {a w : World} (h : Below B (a.drewN n) w) : Below B a w := ⟨h.os, h.tape, h.output, h.size, h.block⟩
theorem bthen {B n : Nat} {a w w' : World} (h : Below B a w) (k : Below n w w') (hn : B ≤ n) : Below B a w' := h.trans (k.mono hn)
/-- What a grownBy leaves of Below. -/
theorem bgrown {B : Nat} {a w w' : World} {v : Value} {S : Nat → Prop} {base : Nat} {e : TypeId} {α : Type} [Dat α] {xs : List α} (h : Below B a w) (hg : w.grownBy w' v.ownBlock) (hown : Own w S base e v xs) (hB : B ≤ base) (hs : B ≤ w.heap.size) : Below B a w' :=
  h.grown hg hs (fun k hk => Nat.le_trans hB (hown.block k hk).1)
end Go.Proofs.YtecofoilghdedaaDoor

/- The program's data as plain Lean data, and how they read in memory. -/
namespace Go.Proofs.YtecofoilghdedaaDoor
open Go.RowKit

structure Sym where
  term : Bool
  n : Int
  deriving DecidableEq, Repr
structure Rule where
  left : Int
  right : List Sym
  deriving DecidableEq, Repr
structure Gram where
  terms : Int
  nons : Int
  start : Int
  rules : List Rule
  deriving DecidableEq, Repr
inductive Tree where
  | mk (rule term : Int) (kids : List Tree)
def Tree.rule : Tree → Int | ⟨r, _, _⟩ => r
def Tree.term : Tree → Int | ⟨_, t, _⟩ => t
def Tree.kids : Tree → List Tree | ⟨_, _, ks⟩ => ks

instance instDatSym : Dat Sym where
  size := 2
  wraps := true
  rd _ _ s cs := cs = [.bool s.term, .int .i64 s.n] ∧ I64 s.n
  len h := by rw [h.1]; rfl
  pos := by decide
  flat h := by simp at h
  one h := by rw [h.1]; intro u hu; simp at hu; rcases hu with rfl | rfl <;> rfl
  keep _ _ h := h
instance instDatRule : Dat Rule where
  size := 2
  wraps := true
  rd w S r cs := ∃ v, cs = [.int .i64 r.left, v] ∧ I64 r.left ∧ Vl w S r.right v
  len h := by obtain ⟨v, rfl, _⟩ := h; rfl
  pos := by decide
  flat h := by simp at h
  one h := by
    obtain ⟨v, rfl, _, hv⟩ := h
    obtain ⟨A, c, rfl, _⟩ := hv.slice
    intro u hu; simp at hu; rcases hu with rfl | rfl <;> rfl
  keep hk hS h := by obtain ⟨v, h1, h2, h3⟩ := h; exact ⟨v, h1, h2, h3.keep hk hS⟩
instance instDatGram : Dat Gram where
  size := 4
  wraps := true
  rd w S g cs := ∃ v, cs = [.int .i64 g.terms, .int .i64 g.nons, .int .i64 g.start, v] ∧ I64 g.terms ∧ I64 g.nons ∧ I64 g.start ∧ Vl w S g.rules v
  len h := by obtain ⟨v, rfl, _⟩ := h; rfl
  pos := by decide
  flat h := by simp at h
  one h := by
    obtain ⟨v, rfl, _, _, _, hv⟩ := h
    obtain ⟨A, c, rfl, _⟩ := hv.slice
    intro u hu; simp at hu; rcases hu with rfl | rfl | rfl | rfl <;> rfl
  keep hk hS h := by obtain ⟨v, h1, h2, h3, h4, h5⟩ := h; exact ⟨v, h1, h2, h3, h4, h5.keep hk hS⟩

/-! Trees: the reading by recursion. -/
mutual
def rdT (w : World) (S : Nat → Prop) : Tree → List Value → Prop
  | ⟨r, t, ks⟩, cs => I64 r ∧ I64 t ∧ ∃ A c, cs = [.int .i64 r, .int .i64 t, .slice A ks.length c] ∧ ks.length ≤ c ∧ c ≤ maxLen ∧ (ks ≠ [] → ∃ b o, A = some ⟨b, o, none⟩ ∧ S b ∧ rdTs w S ks b o)
def rdTs (w : World) (S : Nat → Prop) : List Tree → Nat → Nat → Prop
  | [], _, _ => True
  | k :: ks, b, o => (∃ cs, rdT w S k cs ∧ At w b o cs) ∧ rdTs w S ks b (o + 3)
end
theorem rdT_len {w : World} {S : Nat → Prop} {t : Tree} {cs : List Value} (h : rdT w S t cs) : cs.length = 3 := by
  cases t with
  | mk r t ks => unfold rdT at h; obtain ⟨_, _, A, c, rfl, _⟩ := h; rfl
theorem rdTs_iff {w : World} {S : Nat → Prop} : ∀ (ks : List Tree) (b o : Nat), rdTs w S ks b o ↔ ∀ (i : Nat) (x : Tree), ks[i]? = some x → ∃ cs, rdT w S x cs ∧ At w b (o + i * 3) cs
  | [], b, o => by simp [rdTs]
  | k :: ks, b, o => by
    rw [rdTs, rdTs_iff ks]
    constructor
    · rintro ⟨h1, h2⟩ i x hi
      match i with
      | 0 => simp at hi; subst hi; simpa using h1
      | i + 1 =>
        have := h2 i x (by simpa using hi)
        rw [show o + (i + 1) * 3 = o + 3 + i * 3 from by omega]
        exact this
    · intro h
      refine ⟨by simpa using h 0 k rfl, fun i x hi => ?_⟩
      have := h (i + 1) x (by simpa using hi)
      rw [show o + 3 + i * 3 = o + (i + 1) * 3 from by omega]
      exact this
mutual
theorem rdT_keep {w w' : World} {S S' : Nat → Prop} (hk : ∀ p : Addr, S p.block → p.block < w.heap.size → w'.cell? p = w.cell? p) (hS : ∀ b, S b → S' b) : ∀ (t : Tree) (cs : List Value), rdT w S t cs → rdT w' S' t cs
  | ⟨r, t, ks⟩, cs, h => by
    unfold rdT at h ⊢
    obtain ⟨h1, h2, A, c, h3, h4, h5, h6⟩ := h
    refine ⟨h1, h2, A, c, h3, h4, h5, fun hne => ?_⟩
    obtain ⟨b, o, hA, hb, hks⟩ := h6 hne
    exact ⟨b, o, hA, hS _ hb, rdTs_keep hk hS ks b o hb hks⟩
theorem rdTs_keep {w w' : World} {S S' : Nat → Prop} (hk : ∀ p : Addr, S p.block → p.block < w.heap.size → w'.cell? p = w.cell? p) (hS : ∀ b, S b → S' b) : ∀ (ks : List Tree) (b o : Nat), S b → rdTs w S ks b o → rdTs w' S' ks b o
  | [], _, _, _, _ => by simp [rdTs]
  | k :: ks, b, o, hb, h => by
    rw [rdTs] at h ⊢
    obtain ⟨⟨cs, h1, h2⟩, h3⟩ := h
    have hlt : b < w.heap.size := h2.lt (by rw [rdT_len h1]; decide)
    exact ⟨⟨cs, rdT_keep hk hS k cs h1, h2.keep fun p hp => hk p (hp ▸ hb) (hp ▸ hlt)⟩, rdTs_keep hk hS ks b (o + 3) hb h3⟩
end
instance instDatTree : Dat Tree where
  size := 3
  wraps := true
  rd := rdT
  len := rdT_len
  pos := by decide
  flat h := by simp at h
  one {w S t cs} h := by
    cases t with
    | mk r t ks =>
      unfold rdT at h; obtain ⟨_, _, A, c, rfl, _⟩ := h
      intro u hu; simp at hu; rcases hu with rfl | rfl | rfl <;> rfl
  keep hk hS h := rdT_keep hk hS _ _ h
theorem rd_tree {w : World} {S : Nat → Prop} {t : Tree} {cs : List Value} : Dat.rd w S t cs ↔ ∃ v, cs = [.int .i64 t.rule, .int .i64 t.term, v] ∧ I64 t.rule ∧ I64 t.term ∧ Vl w S t.kids v := by
  cases t with
  | mk r t ks =>
    show rdT w S _ cs ↔ _
    unfold rdT
    constructor
    · rintro ⟨h1, h2, A, c, rfl, h4, h5, h6⟩
      refine ⟨_, rfl, h1, h2, Vl.of_slice rfl h4 (by simpa [maxLen] using h5) fun hne => ?_⟩
      obtain ⟨b, o, hA, hb, hks⟩ := h6 hne
      exact ⟨b, o, hA, hb, (rdTs_iff _ _ _).1 hks⟩
    · rintro ⟨v, rfl, h1, h2, hv⟩
      obtain ⟨A, c, rfl, h4, h5, h6⟩ := hv.slice
      refine ⟨h1, h2, A, c, rfl, h4, by simpa [maxLen] using h5, fun hne => ?_⟩
      obtain ⟨b, o, hA, hb, hks⟩ := h6 hne
      exact ⟨b, o, hA, hb, (rdTs_iff _ _ _).2 hks⟩

section
variable {w : World} {S : Nat → Prop}
theorem Vl.sym {s : Sym} {v : Value} (h : Vl w S s v) : v = .agg #[.bool s.term, .int .i64 s.n] ∧ I64 s.n := by
  obtain ⟨cs, ⟨rfl, h1⟩, hv⟩ := h
  exact ⟨hv, h1⟩
theorem Vl.of_sym {s : Sym} (h : I64 s.n) : Vl w S s (.agg #[.bool s.term, .int .i64 s.n]) := ⟨_, ⟨rfl, h⟩, rfl⟩
theorem Vl.rule {r : Rule} {v : Value} (h : Vl w S r v) : ∃ s, v = .agg #[.int .i64 r.left, s] ∧ I64 r.left ∧ Vl w S r.right s := by
  obtain ⟨cs, ⟨s, rfl, h1, h2⟩, hv⟩ := h
  exact ⟨s, hv, h1, h2⟩
theorem Vl.of_rule {r : Rule} {s : Value} (h1 : I64 r.left) (h2 : Vl w S r.right s) : Vl w S r (.agg #[.int .i64 r.left, s]) := ⟨_, ⟨s, rfl, h1, h2⟩, rfl⟩
theorem Vl.gram {g : Gram} {v : Value} (h : Vl w S g v) : ∃ s, v = .agg #[.int .i64 g.terms, .int .i64 g.nons, .int .i64 g.start, s] ∧ I64 g.terms ∧ I64 g.nons ∧ I64 g.start ∧ Vl w S g.rules s := by
  obtain ⟨cs, ⟨s, rfl, h1, h2, h3, h4⟩, hv⟩ := h
  exact ⟨s, hv, h1, h2, h3, h4⟩
theorem Vl.of_gram {g : Gram} {s : Value} (h1 : I64 g.terms) (h2 : I64 g.nons) (h3 : I64 g.start) (h4 : Vl w S g.rules s) : Vl w S g (.agg #[.int .i64 g.terms, .int .i64 g.nons, .int .i64 g.start, s]) := ⟨_, ⟨s, rfl, h1, h2, h3, h4⟩, rfl⟩
theorem Vl.tree {t : Tree} {v : Value} (h : Vl w S t v) : ∃ s, v = .agg #[.int .i64 t.rule, .int .i64 t.term, s] ∧ I64 t.rule ∧ I64 t.term ∧ Vl w S t.kids s := by
  obtain ⟨cs, hr, hv⟩ := h
  obtain ⟨s, rfl, h1, h2, h3⟩ := rd_tree.1 hr
  exact ⟨s, hv, h1, h2, h3⟩
theorem Vl.of_tree {t : Tree} {s : Value} (h1 : I64 t.rule) (h2 : I64 t.term) (h3 : Vl w S t.kids s) : Vl w S t (.agg #[.int .i64 t.rule, .int .i64 t.term, s]) := ⟨_, rd_tree.2 ⟨s, rfl, h1, h2, h3⟩, rfl⟩
end

/-! The elements of a slice, for a walk: the cells as the walk spells their addresses. -/
section
variable {w : World} {S : Nat → Prop} {A : Option Addr} {k : Nat}
theorem Els.int {xs : List Int} {x : Int} (h : Els w S xs A) (hk : xs[k]? = some x) : ∃ b o, A = some ⟨b, o, none⟩ ∧ S b ∧ b < w.heap.size ∧ I64 x ∧ w.cell? ⟨b, o + k, none⟩ = some (.int .i64 x) := by
  obtain ⟨b, o, cs, hA, hS, hb, ⟨rfl, h1⟩, hc⟩ := h.at_ hk
  exact ⟨b, o, hA, hS, hb, h1, by have h := hc.c0; rwa [show o + k * Dat.size Int = o + k from by show o + k * 1 = _; omega] at h⟩
theorem Els.bool {xs : List Bool} {x : Bool} (h : Els w S xs A) (hk : xs[k]? = some x) : ∃ b o, A = some ⟨b, o, none⟩ ∧ S b ∧ b < w.heap.size ∧ w.cell? ⟨b, o + k, none⟩ = some (.bool x) := by
  obtain ⟨b, o, cs, hA, hS, hb, rfl, hc⟩ := h.at_ hk
  exact ⟨b, o, hA, hS, hb, by have h := hc.c0; rwa [show o + k * Dat.size Bool = o + k from by show o + k * 1 = _; omega] at h⟩
theorem Els.list {α : Type} [Dat α] {xs : List (List α)} {x : List α} (h : Els w S xs A) (hk : xs[k]? = some x) : ∃ b o A' c, A = some ⟨b, o, none⟩ ∧ S b ∧ b < w.heap.size ∧ x.length ≤ c ∧ c ≤ 9223372036854775807 ∧ Els w S x A' ∧ w.cell? ⟨b, o + k, none⟩ = some (.slice A' x.length c) := by
  obtain ⟨b, o, cs, hA, hS, hb, ⟨A', c, rfl, h2, h3, h4⟩, hc⟩ := h.at_ hk
  exact ⟨b, o, A', c, hA, hS, hb, h2, by simpa [maxLen] using h3, h4, by have h := hc.c0; rwa [show o + k * Dat.size (List α) = o + k from by show o + k * 1 = _; omega] at h⟩
theorem Els.sym {xs : List Sym} {x : Sym} (h : Els w S xs A) (hk : xs[k]? = some x) :
    ∃ b o, A = some ⟨b, o, none⟩ ∧ S b ∧ b < w.heap.size ∧ I64 x.n ∧ w.cell? ⟨b, o + k * 2, none⟩ = some (.bool x.term) ∧ w.cell? ⟨b, o + k * 2 + 1, none⟩ = some (.int .i64 x.n) := by
  obtain ⟨b, o, cs, hA, hS, hb, ⟨rfl, h1⟩, hc⟩ := h.at_ hk
  exact ⟨b, o, hA, hS, hb, h1, hc.c0, hc.c1⟩
theorem Els.rule {xs : List Rule} {x : Rule} (h : Els w S xs A) (hk : xs[k]? = some x) :
    ∃ b o A' c, A = some ⟨b, o, none⟩ ∧ S b ∧ b < w.heap.size ∧ I64 x.left ∧ x.right.length ≤ c ∧ c ≤ 9223372036854775807 ∧ Els w S x.right A' ∧ w.cell? ⟨b, o + k * 2, none⟩ = some (.int .i64 x.left) ∧ w.cell? ⟨b, o + k * 2 + 1, none⟩ = some (.slice A' x.right.length c) := by
  obtain ⟨b, o, cs, hA, hS, hb, ⟨v, rfl, h1, hv⟩, hc⟩ := h.at_ hk
  obtain ⟨A', c, rfl, h2, h3, h4⟩ := hv.slice
  exact ⟨b, o, A', c, hA, hS, hb, h1, h2, h3, h4, hc.c0, hc.c1⟩
theorem Els.tree {xs : List Tree} {x : Tree} (h : Els w S xs A) (hk : xs[k]? = some x) :
    ∃ b o A' c, A = some ⟨b, o, none⟩ ∧ S b ∧ b < w.heap.size ∧ I64 x.rule ∧ I64 x.term ∧ x.kids.length ≤ c ∧ c ≤ 9223372036854775807 ∧ Els w S x.kids A' ∧ w.cell? ⟨b, o + k * 3, none⟩ = some (.int .i64 x.rule) ∧ w.cell? ⟨b, o + k * 3 + 1, none⟩ = some (.int .i64 x.term) ∧ w.cell? ⟨b, o + k * 3 + 1 + 1, none⟩ = some (.slice A' x.kids.length c) := by
  obtain ⟨b, o, cs, hA, hS, hb, hr, hc⟩ := h.at_ hk
  obtain ⟨v, rfl, h1, h1', hv⟩ := rd_tree.1 hr
  obtain ⟨A', c, rfl, h2, h3, h4⟩ := hv.slice
  exact ⟨b, o, A', c, hA, hS, hb, h1, h1', h2, h3, h4, hc.c0, hc.c1, hc.d2⟩
end
end Go.Proofs.YtecofoilghdedaaDoor

/- From the form's reading of an argument to plain data: what a reading gives, type by type, and how much of the bound it takes. -/
namespace Go.Proofs.YtecofoilghdedaaDoor
open Go.RowKit Go.ChangeShapes Go.WideShapes Go.Deep

class Blk (α : Type) where
  blk : α → Nat
instance instBlkInt : Blk Int := ⟨fun _ => 1⟩
instance instBlkBool : Blk Bool := ⟨fun _ => 1⟩
def blkAll {α : Type} [Blk α] : List α → Nat
  | [] => 0
  | x :: xs => Blk.blk x + blkAll xs
instance instBlkList {α : Type} [Blk α] : Blk (List α) := ⟨fun l => blkAll l + 1⟩
instance instBlkSym : Blk Sym := ⟨fun _ => 3⟩
instance instBlkRule : Blk Rule := ⟨fun r => 2 + Blk.blk r.right⟩
instance instBlkGram : Blk Gram := ⟨fun g => 4 + Blk.blk g.rules⟩
mutual
def blkTree : Tree → Nat
  | ⟨_, _, ks⟩ => 3 + blkTrees ks + 1
def blkTrees : List Tree → Nat
  | [] => 0
  | k :: ks => blkTree k + blkTrees ks
end
instance instBlkTree : Blk Tree := ⟨blkTree⟩
theorem blkTrees_eq : ∀ ks : List Tree, blkTrees ks = blkAll ks
  | [] => rfl
  | k :: ks => by rw [blkTrees, blkAll, blkTrees_eq ks]; rfl

def OldS (w : World) (b : Nat) : Prop := b < w.heap.size
/-- What the type t reads as. -/
def Opens (P : Program) (α : Type) [Dat α] [Blk α] (t : TypeId) : Prop :=
  ∀ {H : Type} (enc : TypeId × Value → H) (w : World) (base : Nat) (spare : Nat → Bool) (held : Bool) (fuel : Nat) (cs : List Value) (y : DataW H × List MemPlace),
    DataW.trod enc P w base spare held fuel t cs = some y → ∃ x : α, Dat.rd w (OldS w) x cs ∧ Blk.blk x ≤ Rows.uptoBulk y.1

theorem i64_of_wf {n : Int} (h : (Lit.int .i64 n).wf = true) : I64 n := by
  simpa [Lit.wf, IntKind.min, IntKind.max, IntKind.signed, IntKind.bits, I64] using h

section
variable {P : Program}
theorem opens_int {t : TypeId} (ht : P.underlying t = some (.int .i64)) : Opens P Int t := by
  intro H enc w base spare held fuel cs y h
  obtain ⟨n, rfl, rfl, hw⟩ := DataW.trod_int ht h
  exact ⟨n, ⟨rfl, i64_of_wf hw⟩, by simp [Rows.uptoBulk, Blk.blk]⟩
theorem opens_bool {t : TypeId} (ht : P.underlying t = some .bool) : Opens P Bool t := by
  intro H enc w base spare held fuel cs y h
  obtain ⟨n, rfl, rfl⟩ := DataW.trod_bool ht h
  exact ⟨n, rfl, by simp [Rows.uptoBulk, Blk.blk]⟩

theorem list_of_lt {α : Type} {R : Nat → α → Prop} : ∀ (n : Nat), (∀ i, i < n → ∃ x, R i x) → ∃ xs : List α, xs.length = n ∧ ∀ (i : Nat) (x : α), xs[i]? = some x → R i x
  | 0, _ => ⟨[], rfl, by simp⟩
  | n + 1, h => by
    obtain ⟨xs, hl, hx⟩ := list_of_lt n (fun i hi => h i (by omega))
    obtain ⟨x, hr⟩ := h n (by omega)
    refine ⟨xs ++ [x], by simp [hl], fun i y hi => ?_⟩
    rcases Nat.lt_or_ge i xs.length with h1 | h1
    · rw [List.getElem?_append_left h1] at hi; exact hx i y hi
    · have h2 : i = n := by have := (List.getElem?_eq_some_iff.1 hi).1; simp at this; omega
      subst h2
      rw [List.getElem?_append_right h1] at hi
      simp [hl] at hi
      subst hi; exact hr
theorem bulkAll_range {H : Type} {α : Type} [Blk α] (D : Nat → DataW H) : ∀ (xs : List α) (s : Nat), (∀ (i : Nat) (x : α), xs[i]? = some x → Blk.blk x ≤ Rows.uptoBulk (D (s + i))) → blkAll xs ≤ Rows.uptoBulkAll ((List.range' s xs.length).map D)
  | [], _, _ => by simp [blkAll]
  | x :: xs, s, h => by
    have h0 := h 0 x rfl
    have ih := bulkAll_range D xs (s + 1) (fun i y hi => by have := h (i + 1) y (by simpa using hi); rwa [show s + (i + 1) = s + 1 + i from by omega] at this)
    simp only [List.length_cons, List.range'_succ, List.map_cons, blkAll, Rows.uptoBulkAll]
    simp only [Nat.add_zero] at h0
    omega
theorem addr_add {b o n : Nat} : (⟨b, o, none⟩ : Addr).add n = ⟨b, o + n, none⟩ := by unfold Addr.add; split <;> simp_all
theorem els_of_cells {α : Type} [Dat α] {w : World} {base : Nat} {a : Addr} {len : Nat} {xs : List α} (_hl : xs.length = len)
    (h : ∀ (i : Nat) (x : α), xs[i]? = some x → ∃ cs, w.cells? base (a.add (i * Dat.size α)) (Dat.size α) = some cs ∧ Dat.rd w (OldS w) x cs) : Els w (OldS w) xs (some a) := by
  intro hne
  obtain ⟨x0, hx0⟩ : ∃ x, xs[0]? = some x := ⟨_, List.getElem?_eq_getElem (List.length_pos_iff.2 hne)⟩
  have hcell : ∀ (i : Nat) (x : α), xs[i]? = some x → ∃ cs, Dat.rd w (OldS w) x cs ∧ ∀ j u, cs[j]? = some u → w.cell? ((a.add (i * Dat.size α)).add j) = some u := by
    intro i x hi
    obtain ⟨cs, h1, h2⟩ := h i x hi
    obtain ⟨_, hcl, hat⟩ := World.cells?_some h1
    exact ⟨cs, h2, fun j u hu => (hat j (by have := (List.getElem?_eq_some_iff.1 hu).1; rwa [Dat.len h2] at this)).trans hu⟩
  obtain ⟨cs0, h1, h2⟩ := hcell 0 x0 hx0
  have hp : 0 < cs0.length := by rw [Dat.len h1]; exact Dat.pos
  have hc0 := h2 0 cs0[0] (List.getElem?_eq_getElem hp)
  have ha0 : (a.add (0 * Dat.size α)).add 0 = a := by simp [Addr.add]
  rw [ha0] at hc0
  obtain ⟨b, o, spot⟩ := a
  have hspot : spot = none := by simpa using World.cell?_spot hc0
  subst hspot
  have hb : b < w.heap.size := World.block_lt_of_cell? w _ hc0
  refine ⟨b, o, rfl, hb, fun i x hi => ?_⟩
  obtain ⟨cs, h3, h4⟩ := hcell i x hi
  exact ⟨cs, h3, fun j u hu => by have := h4 j u hu; rwa [addr_add, addr_add] at this⟩
theorem opens_slice {α : Type} [Dat α] [Blk α] {t e : TypeId} (ht : P.underlying t = some (.slice e)) (hC : P.cellsOf e = Dat.size α) (he : Opens P α e) : Opens P (List α) t := by
  intro H enc w base spare held fuel cs y h
  rcases open_slice ht h with ⟨rfl, rfl⟩ | ⟨a, len, cap, m, n, D, Pl, rfl, hb, hl, hm, hmm, rfl, hi⟩
  · exact ⟨[], ⟨none, 0, rfl, by simp, by simp, fun h => absurd rfl h⟩, by simp [Rows.uptoBulk, Blk.blk, blkAll]⟩
  · have hlm : len ≤ m := by rw [hmm]; split <;> omega
    obtain ⟨xs, hxl, hx⟩ := list_of_lt (R := fun i (x : α) => (∃ cs, w.cells? base (a.add (i * Dat.size α)) (Dat.size α) = some cs ∧ Dat.rd w (OldS w) x cs) ∧ Blk.blk x ≤ Rows.uptoBulk (D i)) len (fun i hil => by
      obtain ⟨cs', hc, ht'⟩ := hi i (by omega)
      obtain ⟨x, h1, h2⟩ := he enc w base spare held n cs' _ ht'
      rw [hC] at hc
      exact ⟨x, ⟨cs', hc, h1⟩, h2⟩)
    refine ⟨xs, ⟨some a, cap, by rw [hxl], by omega, hm, els_of_cells hxl fun i x hi => (hx i x hi).1⟩, ?_⟩
    have hb := bulkAll_range D xs 0 (fun i x hi => by simpa using (hx i x hi).2)
    rw [hxl, ← List.range_eq_range'] at hb
    simp only [Rows.uptoBulk, Blk.blk]
    omega

/-- The fields of a struct, each of one cell. -/
theorem trod_fields {H : Type} {enc : TypeId × Value → H} {w : World} {base : Nat} {spare : Nat → Bool} {held : Bool} {t : TypeId} {fs : Array Field} {fuel : Nat} {cs : List Value} {y : DataW H × List MemPlace} (hs : P.underlying t = some (.struct fs)) (hone : oneCellFields P fs = true) (hC : P.cellsOf t = fs.size)
    (h : DataW.trod enc P w base spare held fuel t cs = some y) :
    ∃ (n : Nat) (ys : List (DataW H × List MemPlace)), fuel = n + 1 ∧ y.1 = .agg (ys.map (·.1)) ∧ cs.length = fs.size ∧ ys.length = fs.size ∧
      ∀ (j : Nat) (f : Field) (c : Value) (z : DataW H × List MemPlace), fs[j]? = some f → cs[j]? = some c → ys[j]? = some z → DataW.trod enc P w base spare held n f.type [c] = some z := by
  obtain ⟨ys, n, hn, hy, hlen, hyl, hf⟩ := DataW.trod_struct hs h
  refine ⟨n, ys, hn, by rw [hy], hlen.trans hC, hyl, fun j f c z hj hc hz => ?_⟩
  obtain ⟨ho, hk⟩ := hone_of hone j f hj
  have h1 := hf j f hj
  rw [ho, hk] at h1
  obtain ⟨hlt, rfl⟩ := List.getElem?_eq_some_iff.1 hc
  have hone' : (cs.drop j).take 1 = [cs[j]] := by
    rw [List.drop_eq_getElem_cons hlt]
    rfl
  rw [hone'] at h1
  exact h1.trans hz

theorem opens_sym {t : TypeId} {f0 f1 : Field} (hs : P.underlying t = some (.struct #[f0, f1])) (hone : oneCellFields P #[f0, f1] = true) (hC : P.cellsOf t = 2) (h0 : Opens P Bool f0.type) (h1 : Opens P Int f1.type) : Opens P Sym t := by
  intro H enc w base spare held fuel cs y h
  obtain ⟨n, ys, _, hy, hl, hyl, hf⟩ := trod_fields hs hone hC h
  match cs, hl, ys, hyl with
  | [c0, c1], _, [y0, y1], _ =>
    obtain ⟨b, hb, _⟩ := h0 enc w base spare held n [c0] y0 (hf 0 f0 c0 y0 rfl rfl rfl)
    obtain ⟨z, ⟨hz, hz'⟩, _⟩ := h1 enc w base spare held n [c1] y1 (hf 1 f1 c1 y1 rfl rfl rfl)
    have hb1 : [c0] = [Value.bool b] := hb
    obtain rfl : c0 = .bool b := by simpa using hb1
    obtain rfl : c1 = .int .i64 z := by simpa using hz
    refine ⟨⟨b, z⟩, ⟨rfl, hz'⟩, ?_⟩
    have b0 : ∀ d : DataW H, 1 ≤ Rows.uptoBulk d := fun d => by
      cases d with
      | lit l => cases l <;> simp [Rows.uptoBulk]
      | _ => simp [Rows.uptoBulk]
    have := b0 y0.1
    have := b0 y1.1
    rw [hy]
    simp only [List.map_cons, List.map_nil, Rows.uptoBulk, Rows.uptoBulkAll, Blk.blk]
    omega
theorem opens_rule {t : TypeId} {f0 f1 : Field} (hs : P.underlying t = some (.struct #[f0, f1])) (hone : oneCellFields P #[f0, f1] = true) (hC : P.cellsOf t = 2) (h0 : Opens P Int f0.type) (h1 : Opens P (List Sym) f1.type) : Opens P Rule t := by
  intro H enc w base spare held fuel cs y h
  obtain ⟨n, ys, _, hy, hl, hyl, hf⟩ := trod_fields hs hone hC h
  match cs, hl, ys, hyl with
  | [c0, c1], _, [y0, y1], _ =>
    obtain ⟨z, ⟨hz, hz'⟩, hbz⟩ := h0 enc w base spare held n [c0] y0 (hf 0 f0 c0 y0 rfl rfl rfl)
    obtain ⟨r, hr, hbr⟩ := h1 enc w base spare held n [c1] y1 (hf 1 f1 c1 y1 rfl rfl rfl)
    obtain rfl : c0 = .int .i64 z := by simpa using hz
    obtain ⟨v, hv, hvl⟩ := rd_slice hr
    obtain rfl : c1 = v := by simpa using hv
    refine ⟨⟨z, r⟩, ⟨c1, rfl, hz', hvl⟩, ?_⟩
    rw [hy]
    have e1 : Blk.blk z = 1 := rfl
    simp only [List.map_cons, List.map_nil, Rows.uptoBulk, Rows.uptoBulkAll]
    show 2 + Blk.blk r ≤ _
    omega
theorem opens_gram {t : TypeId} {f0 f1 f2 f3 : Field} (hs : P.underlying t = some (.struct #[f0, f1, f2, f3])) (hone : oneCellFields P #[f0, f1, f2, f3] = true) (hC : P.cellsOf t = 4) (h0 : Opens P Int f0.type) (h1 : Opens P Int f1.type) (h2 : Opens P Int f2.type) (h3 : Opens P (List Rule) f3.type) : Opens P Gram t := by
  intro H enc w base spare held fuel cs y h
  obtain ⟨n, ys, _, hy, hl, hyl, hf⟩ := trod_fields hs hone hC h
  match cs, hl, ys, hyl with
  | [c0, c1, c2, c3], _, [y0, y1, y2, y3], _ =>
    obtain ⟨z0, ⟨hz0, hz0'⟩, hb0⟩ := h0 enc w base spare held n [c0] y0 (hf 0 f0 c0 y0 rfl rfl rfl)
    obtain ⟨z1, ⟨hz1, hz1'⟩, hb1⟩ := h1 enc w base spare held n [c1] y1 (hf 1 f1 c1 y1 rfl rfl rfl)
    obtain ⟨z2, ⟨hz2, hz2'⟩, hb2⟩ := h2 enc w base spare held n [c2] y2 (hf 2 f2 c2 y2 rfl rfl rfl)
    obtain ⟨r, hr, hbr⟩ := h3 enc w base spare held n [c3] y3 (hf 3 f3 c3 y3 rfl rfl rfl)
    obtain rfl : c0 = .int .i64 z0 := by simpa using hz0
    obtain rfl : c1 = .int .i64 z1 := by simpa using hz1
    obtain rfl : c2 = .int .i64 z2 := by simpa using hz2
    obtain ⟨v, hv, hvl⟩ := rd_slice hr
    obtain rfl : c3 = v := by simpa using hv
    refine ⟨⟨z0, z1, z2, r⟩, ⟨c3, rfl, hz0', hz1', hz2', hvl⟩, ?_⟩
    rw [hy]
    have e0 : Blk.blk z0 = 1 := rfl
    have e1 : Blk.blk z1 = 1 := rfl
    have e2 : Blk.blk z2 = 1 := rfl
    simp only [List.map_cons, List.map_nil, Rows.uptoBulk, Rows.uptoBulkAll]
    show 4 + Blk.blk r ≤ _
    omega

/-- An argument, opened. -/
theorem open_arg_struct {H : Type} {enc : TypeId × Value → H} {w : World} {base b0 : Nat} {r : Reach} {spare : Nat → Bool} {held : Bool} {α : Type} [Dat α] [Blk α] {t : TypeId} {fs : Array Field} {v : Value} {d : DataW H} {p : List MemPlace} (hw : Dat.wraps α = true) (hs : P.underlying t = some (.struct fs)) (hO : Opens P α t)
    (hv : Value.okWide P w r b0 t v) (h : DataW.Trod enc P w base spare held t v d p) : ∃ x : α, Vl w (OldS w) x v ∧ Blk.blk x ≤ Rows.uptoBulk d := by
  obtain ⟨cs, rfl, _⟩ := okWide_struct hs hv
  obtain ⟨fuel, hf⟩ := h
  obtain ⟨x, h1, h2⟩ := hO enc w base spare held fuel _ _ hf
  exact ⟨x, ⟨_, h1, by rw [if_pos hw]; rfl⟩, h2⟩
theorem open_arg_slice {H : Type} {enc : TypeId × Value → H} {w : World} {base b0 : Nat} {r : Reach} {spare : Nat → Bool} {held : Bool} {α : Type} [Dat α] [Blk α] {t e : TypeId} {v : Value} {d : DataW H} {p : List MemPlace} (hs : P.underlying t = some (.slice e)) (hO : Opens P (List α) t)
    (hv : Value.okWide P w r b0 t v) (h : DataW.Trod enc P w base spare held t v d p) : ∃ x : List α, Vl w (OldS w) x v ∧ Blk.blk x ≤ Rows.uptoBulk d := by
  obtain ⟨a, len, cap, rfl⟩ := okWide_slice hs hv
  obtain ⟨fuel, hf⟩ := h
  obtain ⟨x, h1, h2⟩ := hO enc w base spare held fuel _ _ hf
  exact ⟨x, ⟨_, h1, rfl⟩, h2⟩
theorem open_arg_int {H : Type} {enc : TypeId × Value → H} {w : World} {base b0 : Nat} {r : Reach} {spare : Nat → Bool} {held : Bool} {t : TypeId} {v : Value} {d : DataW H} {p : List MemPlace} (hs : P.underlying t = some (.int .i64))
    (hv : Value.okWide P w r b0 t v) (h : DataW.Trod enc P w base spare held t v d p) : ∃ x : Int, Vl w (OldS w) x v ∧ Blk.blk x ≤ Rows.uptoBulk d := by
  obtain ⟨n, rfl⟩ := okWide_int hs hv
  obtain ⟨fuel, hf⟩ := h
  obtain ⟨x, h1, h2⟩ := opens_int hs enc w base spare held fuel _ _ hf
  exact ⟨x, ⟨_, h1, rfl⟩, h2⟩
end
theorem blk_len {α : Type} [Blk α] (hb : ∀ x : α, 1 ≤ Blk.blk x) : ∀ (xs : List α), xs.length ≤ blkAll xs
  | [] => by simp [blkAll]
  | x :: xs => by have := blk_len hb xs; have := hb x; simp only [List.length_cons, blkAll]; omega
theorem upto_bound {H : Type} {l : List (DataW H)} (hk : Rows.uptoSmall H l = true) : Rows.uptoBulkAll l ≤ 1048576 := by
  simpa [Rows.uptoSmall] using hk
end Go.Proofs.YtecofoilghdedaaDoor

/- What the seat's own types read as. -/
namespace Go.Proofs.YtecofoilghdedaaDoor
open Go.RowKit
theorem opensSym : Opens Tryd.prog Sym 49 := opens_sym Tryd.underlying49 (by kernel_rfl) (by kernel_rfl) (opens_bool Tryd.underlying4) (opens_int Tryd.underlying3)
theorem opensSyms : Opens Tryd.prog (List Sym) 50 := opens_slice Tryd.underlying50 (by kernel_rfl) opensSym
theorem opensRule : Opens Tryd.prog Rule 52 := opens_rule Tryd.underlying52 (by kernel_rfl) (by kernel_rfl) (opens_int Tryd.underlying3) opensSyms
theorem opensRules : Opens Tryd.prog (List Rule) 23 := opens_slice Tryd.underlying23 (by kernel_rfl) opensRule
theorem opensGram : Opens Tryd.prog Gram 25 := opens_gram Tryd.underlying25 (by kernel_rfl) (by kernel_rfl) (opens_int Tryd.underlying3) (opens_int Tryd.underlying3) (opens_int Tryd.underlying3) opensRules
theorem opensInts : Opens Tryd.prog (List Int) 22 := opens_slice Tryd.underlying22 (by kernel_rfl) (opens_int Tryd.underlying3)
end Go.Proofs.YtecofoilghdedaaDoor

/- Plain data of the normal form: the divided rules. No program is named here. -/
namespace Go.Proofs.YtecofoilghdedaaDoor
open Go.RowKit
set_option linter.unusedVariables false

structure Part where
  left : Int
  rule : Int
  right : List Int
  whole : Bool
  deriving DecidableEq, Repr
instance instDatPart : Dat Part where
  size := 4
  wraps := true
  rd w S r cs := ∃ v, cs = [.int .i64 r.left, .int .i64 r.rule, v, .bool r.whole] ∧ I64 r.left ∧ I64 r.rule ∧ Vl w S r.right v
  len h := by obtain ⟨v, rfl, _⟩ := h; rfl
  pos := by decide
  flat h := by simp at h
  one h := by
    obtain ⟨v, rfl, _, _, hv⟩ := h
    obtain ⟨A, c, rfl, _⟩ := hv.slice
    intro u hu; simp at hu; rcases hu with rfl | rfl | rfl | rfl <;> rfl
  keep hk hS h := by obtain ⟨v, h1, h2, h3, h4⟩ := h; exact ⟨v, h1, h2, h3, h4.keep hk hS⟩
section
variable {w : World} {S : Nat → Prop}
theorem Els.part {A : Option Addr} {k : Nat} {xs : List Part} {x : Part} (h : Els w S xs A) (hk : xs[k]? = some x) :
    ∃ b o A' c, A = some ⟨b, o, none⟩ ∧ S b ∧ b < w.heap.size ∧ I64 x.left ∧ I64 x.rule ∧ x.right.length ≤ c ∧ c ≤ 9223372036854775807 ∧ Els w S x.right A' ∧ w.cell? ⟨b, o + k * 4, none⟩ = some (.int .i64 x.left) ∧ w.cell? ⟨b, o + k * 4 + 1, none⟩ = some (.int .i64 x.rule) ∧ w.cell? ⟨b, o + k * 4 + 2, none⟩ = some (.slice A' x.right.length c) ∧ w.cell? ⟨b, o + k * 4 + 3, none⟩ = some (.bool x.whole) := by
  obtain ⟨b, o, cs, hA, hS, hb, ⟨v, rfl, h1, h2, hv⟩, hc⟩ := h.at_ hk
  obtain ⟨A', c, rfl, h3, h4, h5⟩ := hv.slice
  exact ⟨b, o, A', c, hA, hS, hb, h1, h2, h3, h4, h5, hc.c0, hc.c1, hc 2 _ rfl, hc 3 _ rfl⟩
end

/-- The number of a symbol in the normal form. -/
def symN (leaf : Nat) (s : Sym) : Int := if s.term then (leaf : Int) + s.n else s.n
def fromN (k c : Nat) : List Int := (List.range c).map fun i : Nat => ((k + i : Nat) : Int)
/-- How many new ones rules have. -/
def moreN : List Rule → Nat
  | [] => 0
  | r :: rs => (r.right.length - 2) + moreN rs
def restL (k : Nat) : List Rule → List (List Int)
  | [] => []
  | r :: rs => fromN k (r.right.length - 2) :: restL (k + (r.right.length - 2)) rs
/-- The parts of a long rule, the first k of them. -/
def cutL (leaf i : Nat) (r : Rule) (rest : List Int) (k : Nat) : List Part :=
  (List.range k).map fun j : Nat => ⟨if j = 0 then r.left else rest.getD (j - 1) 0, (i : Int),
    [symN leaf (r.right.getD j ⟨false, 0⟩), if j + 2 = r.right.length then symN leaf (r.right.getD (j + 1) ⟨false, 0⟩) else rest.getD j 0], decide (j = 0)⟩
def npartR (leaf i : Nat) (r : Rule) (rest : List Int) : List Part :=
  if r.right.length < 3 then [⟨r.left, (i : Int), r.right.map (symN leaf), true⟩] else cutL leaf i r rest (r.right.length - 1)
/-- The parts of the rules from number i on. -/
def npartL (leaf i : Nat) : List Rule → List (List Int) → List Part
  | [], _ => []
  | r :: rs, rest => npartR leaf i r (rest.headD []) ++ npartL leaf (i + 1) rs rest.tail

theorem fromN_len (k c : Nat) : (fromN k c).length = c := by simp [fromN]
theorem fromN_snoc (k c : Nat) : fromN k (c + 1) = fromN k c ++ [((k + c : Nat) : Int)] := by simp [fromN, List.range_succ]
theorem fromN_get {k c i : Nat} (h : i < c) : (fromN k c)[i]? = some ((k + i : Nat) : Int) := by simp [fromN, h]
theorem moreN_snoc (rs : List Rule) (r : Rule) : moreN (rs ++ [r]) = moreN rs + (r.right.length - 2) := by
  induction rs with
  | nil => simp [moreN]
  | cons q rs ih => simp only [List.cons_append, moreN, ih]; omega
theorem restL_snoc (r : Rule) : ∀ (rs : List Rule) (k : Nat), restL k (rs ++ [r]) = restL k rs ++ [fromN (k + moreN rs) (r.right.length - 2)]
  | [], k => by simp [restL, moreN]
  | q :: rs, k => by
    simp only [List.cons_append, restL, moreN, restL_snoc r rs]
    rw [Nat.add_assoc]
theorem restL_len (rs : List Rule) : ∀ k, (restL k rs).length = rs.length := by
  induction rs with
  | nil => intro k; rfl
  | cons q rs ih => intro k; simp [restL, ih]
theorem restL_get {r : Rule} : ∀ {rs : List Rule} {i k : Nat}, rs[i]? = some r → (restL k rs)[i]? = some (fromN (k + moreN (rs.take i)) (r.right.length - 2))
  | [], i, k, h => by simp at h
  | q :: rs, 0, k, h => by
    simp at h
    subst h
    simp [restL, moreN]
  | q :: rs, i + 1, k, h => by
    simp only [List.getElem?_cons_succ] at h
    simp only [restL, List.getElem?_cons_succ, restL_get h, List.take_succ_cons, moreN]
    rw [Nat.add_assoc]
theorem moreN_le {rs : List Rule} (h : ∀ r ∈ rs, r.right.length ≤ 4) : moreN rs ≤ 2 * rs.length := by
  induction rs with
  | nil => simp [moreN]
  | cons q rs ih =>
    have h1 := h q (by simp)
    have h2 := ih (fun r hr => h r (by simp [hr]))
    simp only [moreN, List.length_cons]
    omega
theorem moreN_take_le (rs : List Rule) : ∀ i, moreN (rs.take i) ≤ moreN rs := by
  induction rs with
  | nil => intro i; simp
  | cons q rs ih =>
    intro i
    cases i with
    | zero => simp [moreN]
    | succ i => have := ih i; simp only [List.take_succ_cons, moreN]; omega
theorem cutL_len (leaf i : Nat) (r : Rule) (rest : List Int) (k : Nat) : (cutL leaf i r rest k).length = k := by simp [cutL]
theorem cutL_snoc (leaf i : Nat) (r : Rule) (rest : List Int) (k : Nat) : cutL leaf i r rest (k + 1) = cutL leaf i r rest k ++ [⟨if k = 0 then r.left else rest.getD (k - 1) 0, (i : Int),
    [symN leaf (r.right.getD k ⟨false, 0⟩), if k + 2 = r.right.length then symN leaf (r.right.getD (k + 1) ⟨false, 0⟩) else rest.getD k 0], decide (k = 0)⟩] := by simp [cutL, List.range_succ]
theorem npartL_snoc (leaf : Nat) (r : Rule) (x : List Int) : ∀ (rs : List Rule) (xs : List (List Int)) (i : Nat), xs.length = rs.length → npartL leaf i (rs ++ [r]) (xs ++ [x]) = npartL leaf i rs xs ++ npartR leaf (i + rs.length) r x
  | [], [], i, _ => by simp [npartL]
  | [], _ :: _, i, h => by simp at h
  | q :: rs, [], i, h => by simp at h
  | q :: rs, y :: ys, i, h => by
    have ih := npartL_snoc leaf r x rs ys (i + 1) (by simpa using h)
    simp only [List.cons_append, npartL, List.headD_cons, List.tail_cons, ih, List.append_assoc, List.length_cons]
    rw [show i + 1 + rs.length = i + (rs.length + 1) from by omega]
end Go.Proofs.YtecofoilghdedaaDoor

/- The element types of slices, off the program's tables. -/
namespace Go.Proofs.YtecofoilghdedaaDoor
open Go.RowKit
theorem infoInt : (Tryd.prog.info? 3).map (fun i => (i.zero, i.size, i.bytes)) = some (some (.int .i64 0), 1, 8) := by kernel_rfl
theorem elemInt : ElemT Tryd.prog Int 22 3 8 := by obtain ⟨i, h1, h2, h3, h4⟩ := info_parts infoInt; exact ⟨i, _, Tryd.underlying22, h1, h2, h3, h4, rfl⟩
theorem infoBool : (Tryd.prog.info? 4).map (fun i => (i.zero, i.size, i.bytes)) = some (some (.bool false), 1, 1) := by kernel_rfl
theorem elemBool : ElemT Tryd.prog Bool 85 4 1 := by obtain ⟨i, h1, h2, h3, h4⟩ := info_parts infoBool; exact ⟨i, _, Tryd.underlying85, h1, h2, h3, h4, rfl⟩
theorem infoSym : (Tryd.prog.info? 49).map (fun i => (i.zero, i.size, i.bytes)) = some (some (.agg #[.bool false, .int .i64 0]), 2, 16) := by kernel_rfl
theorem elemSym : ElemT Tryd.prog Sym 50 49 16 := by obtain ⟨i, h1, h2, h3, h4⟩ := info_parts infoSym; exact ⟨i, _, Tryd.underlying50, h1, h2, h3, h4, rfl⟩
theorem infoRule : (Tryd.prog.info? 52).map (fun i => (i.zero, i.size, i.bytes)) = some (some (.agg #[.int .i64 0, .slice none 0 0]), 2, 32) := by kernel_rfl
theorem elemRule : ElemT Tryd.prog Rule 23 52 32 := by obtain ⟨i, h1, h2, h3, h4⟩ := info_parts infoRule; exact ⟨i, _, Tryd.underlying23, h1, h2, h3, h4, rfl⟩
theorem infoTree : (Tryd.prog.info? 68).map (fun i => (i.zero, i.size, i.bytes)) = some (some (.agg #[.int .i64 0, .int .i64 0, .slice none 0 0]), 3, 40) := by kernel_rfl
theorem elemTree : ElemT Tryd.prog Tree 66 68 40 := by obtain ⟨i, h1, h2, h3, h4⟩ := info_parts infoTree; exact ⟨i, _, Tryd.underlying66, h1, h2, h3, h4, rfl⟩
theorem infoInts : (Tryd.prog.info? 22).map (fun i => (i.zero, i.size, i.bytes)) = some (some (.slice none 0 0), 1, 24) := by kernel_rfl
theorem elemInts : ElemT Tryd.prog (List Int) 54 22 24 := by obtain ⟨i, h1, h2, h3, h4⟩ := info_parts infoInts; exact ⟨i, _, Tryd.underlying54, h1, h2, h3, h4, rfl⟩
theorem infoBools : (Tryd.prog.info? 85).map (fun i => (i.zero, i.size, i.bytes)) = some (some (.slice none 0 0), 1, 24) := by kernel_rfl
theorem elemBools : ElemT Tryd.prog (List Bool) 108 85 24 := by obtain ⟨i, h1, h2, h3, h4⟩ := info_parts infoBools; exact ⟨i, _, Tryd.underlying108, h1, h2, h3, h4, rfl⟩
end Go.Proofs.YtecofoilghdedaaDoor

/- Appending a whole slice onto a row of the call's own; a row made with room by append-of-make. -/
namespace Go.Proofs.YtecofoilghdedaaDoor
open Go.RowKit

theorem Els.lists {α : Type} [Dat α] {w : World} {S : Nat → Prop} {b o : Nat} : ∀ (xs : List α) (s : Nat),
    (∀ i x, xs[i]? = some x → ∃ cs, Dat.rd w S x cs ∧ At w b (o + (s + i) * Dat.size α) cs) →
    ∃ css : List (List Value), css.length = xs.length ∧ (∀ (i : Nat) (x : α) (cs : List Value), xs[i]? = some x → css[i]? = some cs → Dat.rd w S x cs) ∧ At w b (o + s * Dat.size α) css.flatten
  | [], s, _ => ⟨[], rfl, by simp, by intro j u hu; simp at hu⟩
  | x :: xs, s, h => by
    obtain ⟨cs, h1, h2⟩ := h 0 x rfl
    obtain ⟨css, h3, h4, h5⟩ := Els.lists xs (s + 1) (fun i y hi => by
      obtain ⟨ds, h6, h7⟩ := h (i + 1) y (by simpa using hi)
      exact ⟨ds, h6, by rw [show s + 1 + i = s + (i + 1) from by omega]; exact h7⟩)
    refine ⟨cs :: css, by simp [h3], fun i y ds hi hd => ?_, ?_⟩
    · match i with
      | 0 => simp at hi hd; subst hi; subst hd; exact h1
      | i + 1 => exact h4 i y ds (by simpa using hi) (by simpa using hd)
    · intro j u hu
      rw [List.flatten_cons] at hu
      have hl := Dat.len h1
      rcases Nat.lt_or_ge j cs.length with hj | hj
      · rw [List.getElem?_append_left hj] at hu
        have := h2 j u hu
        simpa using this
      · rw [List.getElem?_append_right hj] at hu
        have := h5 _ u hu
        rw [hl] at this hj
        rw [show o + s * Dat.size α + j = o + (s + 1) * Dat.size α + (j - Dat.size α) from by rw [Nat.add_mul]; omega]
        exact this

theorem flat_len {size : Nat} : ∀ (css : List (List Value)) (_ : ∀ cs ∈ css, cs.length = size), css.flatten.length = css.length * size
  | [], _ => by simp
  | c :: css, h => by
    rw [List.flatten_cons, List.length_append, flat_len css (fun cs hcs => h cs (by simp [hcs])), h c (by simp), List.length_cons, Nat.add_mul]; omega

section
variable {P : Program} {w : World} {S : Nat → Prop} {base : Nat} {α : Type} [Dat α]

theorem own_many {e : TypeId} {v v' : Value} {w' : World} {xs ys : List α} {css dss : List (List Value)}
    (h2 : css.length = xs.length) (h3 : ∀ (i : Nat) (x : α) (cs : List Value), xs[i]? = some x → css[i]? = some cs → Dat.rd w (OwnT S base v w) x cs)
    (h2' : dss.length = ys.length) (h3' : ∀ (i : Nat) (x : α) (cs : List Value), ys[i]? = some x → dss[i]? = some cs → Dat.rd w (OwnT S base v w) x cs)
    (hown : w'.ownsRow base e (Dat.size α) v' (xs.length + ys.length) (css.flatten ++ dss.flatten))
    (hg : w.grownBy w' v.ownBlock) (hat : v'.ownBlock = v.ownBlock ∨ v'.ownBlock = some w.heap.size) : Own w' S base e v' (xs ++ ys) := by
  have hkeep : ∀ {y : α} {ds : List Value}, Dat.rd w (OwnT S base v w) y ds → Dat.rd w' (OwnT S base v' w') y ds := fun hy =>
    Dat.keep (fun p hp hlt => World.cell?_of_block (hg.block p.block hlt (fun e => hp.2.1 e.symm))) (fun b hb => ⟨hb.1, by
      rcases hat with e | e
      · rw [e]; exact hb.2.1
      · rw [e]; intro h; injection h with h; have := hb.2.2; omega, Nat.lt_of_lt_of_le hb.2.2 hg.size⟩) hy
  refine ⟨css ++ dss, by simpa using hown, by simp [h2, h2'], fun i y ds hi hd => ?_⟩
  rcases Nat.lt_or_ge i xs.length with hlt | hge
  · rw [List.getElem?_append_left hlt] at hi
    rw [List.getElem?_append_left (by omega)] at hd
    exact hkeep (h3 i y ds hi hd)
  · rw [List.getElem?_append_right hge] at hi
    rw [List.getElem?_append_right (by omega), h2] at hd
    exact hkeep (h3' _ y ds hi hd)

theorem run_append_nil_src {t ty e : TypeId} {i : TypeInfo} {size : Nat} (ht : P.underlying t = some (.slice e)) (hi : P.info? e = some i)
    {v : Value} {n : Nat} {xs : List Value} (hown : w.ownsRow base e size v n xs) (c : Nat) : (Builtin.append_ #[t, t] ty #[v, .slice none 0 c]).run P w = .ok v w := by
  rcases hown.2 with ⟨rfl, rfl⟩ | ⟨g, cap, cur, rfl, _, _, hnc, _⟩
  · simp [Builtin.append_, run_underlying ht, sizeOf, typeInfo, hi, Builtin.lenOf, Builtin.firstCells]
  · simp [Builtin.append_, run_underlying ht, sizeOf, typeInfo, hi, Builtin.lenOf, Builtin.firstCells, hnc, storeCells]
theorem run_append_none_src {t ty e : TypeId} {i : TypeInfo} {size : Nat} (ht : P.underlying t = some (.slice e)) (hi : P.info? e = some i)
    {v : Value} {n : Nat} {xs : List Value} (hown : w.ownsRow base e size v n xs) (ad : Addr) (c : Nat) : (Builtin.append_ #[t, t] ty #[v, .slice (some ad) 0 c]).run P w = .ok v w := by
  rcases hown.2 with ⟨rfl, rfl⟩ | ⟨g, cap, cur, rfl, _, _, hnc, _⟩
  · simp [Builtin.append_, run_underlying ht, sizeOf, typeInfo, hi, Builtin.lenOf, Builtin.firstCells, loadCells, loadCellsFrom]
  · simp [Builtin.append_, run_underlying ht, sizeOf, typeInfo, hi, Builtin.lenOf, Builtin.firstCells, hnc, storeCells, loadCells, loadCellsFrom]

/-- append of a whole slice that reads as ys. -/
theorem run_ownMany {t ty e : TypeId} {bytes : Nat} (hT : ElemT P α t e bytes) {v : Value} {xs ys : List α} {A : Option Addr} {c : Nat} (hown : Own w S base e v xs)
    (hys : Els w (OwnT S base v w) ys A) (hlen : (xs.length + ys.length) * bytes ≤ 140737488355328) (hmax : xs.length + ys.length ≤ 9223372036854775807) (hbase : base ≤ w.heap.size) :
    ∃ v' w', (Builtin.append_ #[t, t] ty #[v, .slice A ys.length c]).run P w = .ok v' w' ∧ Own w' S base e v' (xs ++ ys) ∧ w.grownBy w' v.ownBlock ∧ (v'.ownBlock = v.ownBlock ∨ v'.ownBlock = some w.heap.size) := by
  obtain ⟨i, z, ht, hi, hz, hsize, hby, hzs⟩ := hT
  by_cases hne : ys = []
  · subst hne
    refine ⟨v, w, ?_, by simpa using hown, ⟨rfl, rfl, rfl, Nat.le_refl _, fun _ _ _ => rfl⟩, .inl rfl⟩
    obtain ⟨css, h1, _⟩ := hown
    cases A with
    | none => exact run_append_nil_src ht hi h1 c
    | some ad => exact run_append_none_src ht hi h1 ad c
  · obtain ⟨b, o, rfl, hb, hx⟩ := hys hne
    obtain ⟨dss, h2', h3', h4'⟩ := Els.lists (o := o) ys 0 (fun i x hi => by simpa using hx i x hi)
    simp only [Nat.zero_mul, Nat.add_zero] at h4'
    obtain ⟨css, h1, h2, h3⟩ := hown
    have hdl : ∀ ds ∈ dss, ds.length = Dat.size α := by
      intro ds hds
      obtain ⟨i, hi, rfl⟩ := List.getElem_of_mem hds
      exact Dat.len (h3' i _ _ (List.getElem?_eq_getElem (by omega : i < ys.length)) (List.getElem?_eq_getElem hi))
    have hfl := flat_len dss hdl
    have hone : ∀ u ∈ dss.flatten, u.oneCell' = true := by
      intro u hu
      obtain ⟨ds, hds, hu⟩ := List.mem_flatten.1 hu
      obtain ⟨i, hi, rfl⟩ := List.getElem_of_mem hds
      exact Dat.one (h3' i _ _ (List.getElem?_eq_getElem (by omega : i < ys.length)) (List.getElem?_eq_getElem hi)) u hu
    obtain ⟨v', w', hr, ho, hg, _, h5⟩ := run_append_own_at (P := P) w base t ty e i z (Dat.size α) bytes ht hi hz hsize hby hzs Dat.pos v xs.length css.flatten h1 ⟨b, o, none⟩ ys.length c dss.flatten (by rw [hfl, h2'])
      (by
        intro j u hu
        have h := h4' j u hu
        have hadd : (⟨b, o, none⟩ : Addr).add j = ⟨b, o + j, none⟩ := by unfold Addr.add; split <;> simp_all
        rw [hadd]; exact h) hone (by simpa [maxLen] using hmax) hlen hbase
    exact ⟨v', w', hr, own_many h2 h3 h2' h3' ho hg h5, hg, h5⟩
end

section
variable {P : Program} (w : World) {S : Nat → Prop} {base : Nat} {α : Type} [Dat α]
theorem wp_ownMany {o : Oper} {a : Act} {K : Act → World → Prop} {Q : Exit → Act → World → Prop} (s xo : Operand) {t e : TypeId} {bytes : Nat} (hT : ElemT P α t e bytes)
    (ho : o.op = .call { callee := .builtin .append, args := #[s, xo], argTypes := #[t, t] })
    {v : Value} {xs : List α} (hs : a.eval s = v) (hown : Own w S base e v xs) (ys : List α) {A : Option Addr} {n c : Nat} (hx : a.eval xo = .slice A n c) (hn : n = ys.length)
    (hys : Els w (OwnT S base v w) ys A) (hlen : (xs.length + ys.length) * bytes ≤ 140737488355328) (hmax : xs.length + ys.length ≤ 9223372036854775807) (hbase : base ≤ w.heap.size)
    (h : ∀ v' w', Own w' S base e v' (xs ++ ys) → w.grownBy w' v.ownBlock → (v'.ownBlock = v.ownBlock ∨ v'.ownBlock = some w.heap.size) → K (a.put o.dst v') w') : o.wp P a w K Q := by
  subst hn
  obtain ⟨v', w', hrun, h2, h3, h4⟩ := run_ownMany (ty := o.type) (c := c) hT hown hys hlen hmax hbase
  unfold Oper.wp execOp
  simp only [ho, resolve, invoke, builtin, Sem.run_bind, Sem.run_pure, Result.andThen_ok, List.map_toArray, List.map_cons, List.map_nil, hs, hx, hrun]
  exact h v' w' h2 h3 h4
theorem wpList_ownMany {ops : Array Oper} {rest : List Oper} {o : Oper} {a : Act} {Q : Exit → Act → World → Prop} (hgd : o.guard = none) (s xo : Operand) {t e : TypeId} {bytes : Nat} (hT : ElemT P α t e bytes)
    (ho : o.op = .call { callee := .builtin .append, args := #[s, xo], argTypes := #[t, t] })
    {v : Value} {xs : List α} (hs : a.eval s = v) (hown : Own w S base e v xs) (ys : List α) {A : Option Addr} {n c : Nat} (hx : a.eval xo = .slice A n c) (hn : n = ys.length)
    (hys : Els w (OwnT S base v w) ys A) (hlen : (xs.length + ys.length) * bytes ≤ 140737488355328) (hmax : xs.length + ys.length ≤ 9223372036854775807) (hbase : base ≤ w.heap.size)
    (h : ∀ v' w', Own w' S base e v' (xs ++ ys) → w.grownBy w' v.ownBlock → (v'.ownBlock = v.ownBlock ∨ v'.ownBlock = some w.heap.size) → wpList P ops Q rest (a.put o.dst v') w') : wpList P ops Q (o :: rest) a w :=
  wpList_plain hgd fun _ hK => wp_ownMany w s xo hT ho hs hown ys hx hn hys hlen hmax hbase fun v' w' h2 h3 h4 => hK _ _ (h v' w' h2 h3 h4)
end

/-- A row of no element, with room. -/
theorem Own.made {α : Type} [Dat α] {w : World} (S : Nat → Prop) {base : Nat} {e : TypeId} {cur : Array Value} {cap : Nat} (hb : base ≤ w.heap.size) (hm : cap ≤ 9223372036854775807) (hs : cur.size = cap * Dat.size α) :
    Own (w.alloc (.cells cur e)) S base e (.slice (some ⟨w.heap.size, 0, none⟩) 0 cap) ([] : List α) :=
  ⟨[], World.ownsRow_made w cur cap hb (by simpa [maxLen] using hm) hs, rfl, fun i x cs h => by simp at h⟩

/-- append(nil, make([]T, n)...) : the run, as an equation, and what the row is when cut to no element. -/
theorem run_room {P : Program} {w : World} {α : Type} [Dat α] {t tn ty e : TypeId} {bytes : Nat} {kn k : IntKind} (hT : ElemT P α t e bytes) (htn : P.underlying tn = some (.int kn)) (n : Nat) (h0 : 0 < n) (h48 : n * bytes ≤ 281474976710656) (h63 : n ≤ 9223372036854775807) :
    ∃ w' g cap, (Builtin.append_ #[t, tn] ty #[.slice none 0 0, .int k n]).run P w = .ok (.slice (some ⟨g, 0, none⟩) n cap) w' ∧ g = w.heap.size ∧ n ≤ cap ∧ cap ≤ 9223372036854775807 ∧ (∀ S, Own w' S w.heap.size e (.slice (some ⟨g, 0, none⟩) 0 cap) ([] : List α)) ∧ Below w.heap.size w w' ∧ w'.heap.size = w.heap.size + 1 := by
  obtain ⟨i, z, ht, hi, hz, hsize, hby, hzs⟩ := hT
  have hr := Lib.run_append_nil_zeros (P := P) w t tn ty e i z k kn ht htn hi hz n h0 (by rw [hsize]; exact Dat.pos) (by omega) (by rw [hby]; exact h48)
  have hge := grownCap_ge w n 0 e
  have hcm := grownCap_le_maxLen w n 0 e (by simpa [maxLen] using h63)
  refine ⟨_, _, _, hr, rfl, hge, by simpa [maxLen] using hcm, fun S => ?_, ((Below.refl _ _).drew).alloc (Nat.le_refl _) _, by simp⟩
  exact Own.made (w := w.drew) S (Nat.le_refl _) (by simpa [maxLen] using hcm) (by simp only [Array.size_append, size_zeroCells, hzs, ← Nat.add_mul]; congr 1; omega)

/-- What append leaves of a literal row on nil: a row of the call's own. -/
theorem Own.litGrown {α : Type} [Dat α] {w : World} (S : Nat → Prop) {base : Nat} {e : TypeId} (xs : List α) (css : List (List Value)) (z : Array Value) (n : Nat) (hn : n = xs.length) (hz : z.size = Dat.size α) (hb : base ≤ w.heap.size) (hm : xs.length ≤ 9223372036854775807) (hl : css.length = xs.length)
    (hr : ∀ (i : Nat) (x : α) (cs : List Value), xs[i]? = some x → css[i]? = some cs → Dat.rd w (fun b => (S b ∨ base ≤ b) ∧ b < w.heap.size) x cs) (w0 : World) :
    Own (w.alloc (.cells (css.flatten.toArray ++ Builtin.zeroCells z ((Question.appendCap n 0 e).cut (w0.tape w0.drawn (Question.appendCap n 0 e)) - n)) e)).drew S base e (.slice (some ⟨w.heap.size, 0, none⟩) n ((Question.appendCap n 0 e).cut (w0.tape w0.drawn (Question.appendCap n 0 e)))) xs := by
  subst hn
  have hge := grownCap_ge w0 xs.length 0 e
  have hcm := grownCap_le_maxLen w0 xs.length 0 e (by simpa [maxLen] using hm)
  unfold grownCap at hge hcm
  generalize (Question.appendCap xs.length 0 e).cut (w0.tape w0.drawn (Question.appendCap xs.length 0 e)) = cap at *
  have hdl : ∀ ds ∈ css, ds.length = Dat.size α := by
    intro ds hds
    obtain ⟨i, hi, rfl⟩ := List.getElem_of_mem hds
    exact Dat.len (hr i _ _ (List.getElem?_eq_getElem (by omega : i < xs.length)) (List.getElem?_eq_getElem hi))
  have hfl := flat_len css hdl
  rw [hl] at hfl
  refine ⟨css, ⟨hfl, .inr ⟨w.heap.size, cap, _, rfl, hb, heap_alloc_new w _, hge, hcm, ?_, ?_⟩⟩, hl, fun i x cs hi hc => Dat.keep (fun p hp hlt => ?_) (fun b hb' => ⟨hb'.1, ?_, ?_⟩) (hr i x cs hi hc)⟩
  · simp only [Array.size_append, size_zeroCells, hz, List.size_toArray, hfl, ← Nat.add_mul]; congr 1; omega
  · rw [Array.toList_append, List.take_append_of_le_length (by simp [hfl])]
    exact List.take_of_length_le (by simp [hfl])
  · exact ((Below.refl _ _).alloc (Nat.le_refl _) _ : Below w.heap.size w _).cell hp.2
  · simp [Value.ownBlock]; have := hb'.2; omega
  · have := hb'.2; simp; omega

/-- A call that returns a row of its own. -/
def RetOwn {α : Type} [Dat α] (w0 : World) (S : Nat → Prop) (et : TypeId) (xs : List α) (e : Ending) (w' : World) : Prop :=
  ∃ v, e = .returned v ∧ Own w' S w0.heap.size et v xs ∧ Below w0.heap.size w0 w'
theorem flat_take_le {α : Type} (xss : List (List α)) (k : Nat) : (xss.take k).flatten.length ≤ xss.flatten.length := by
  conv => rhs; rw [← List.take_append_drop k xss]
  rw [List.flatten_append, List.length_append]; omega
theorem flat_take_snoc {α : Type} {xss : List (List α)} {k : Nat} {xs : List α} (h : xss[k]? = some xs) : (xss.take (k + 1)).flatten = (xss.take k).flatten ++ xs := by
  rw [take_snoc h, List.flatten_append]; simp
theorem Els.own {α : Type} [Dat α] {w : World} {S : Nat → Prop} {base : Nat} {e : TypeId} {β : Type} [Dat β] {v : Value} {ys : List β} {xs : List α} {A : Option Addr} (h : Els w S xs A) (hown : Own w S base e v ys) (hS : ∀ b, S b → b < base) (hb : base ≤ w.heap.size) : Els w (OwnT S base v w) xs A :=
  h.keep (fun _ _ _ => rfl) (fun b hb' => ⟨.inl hb', fun e => by have := (hown.block b e).1; have := hS b hb'; omega, by have := hS b hb'; omega⟩)
theorem own_ne {α : Type} [Dat α] {w : World} {S : Nat → Prop} {B : Nat} {e : TypeId} {v : Value} {xs : List α} (h : Own w S (B + 1) e v xs) : some B ≠ v.ownBlock := fun e => by have := (h.block B e.symm).1; omega
theorem At.new (w : World) (cs : List Value) (t : TypeId) : At (w.alloc (.cells cs.toArray t)) w.heap.size 0 cs := fun j u hu => by
  rw [Nat.zero_add, World.cell?_alloc_new]; simpa using hu
theorem snoc_len {α : Type} (l : List α) (x : α) : (l ++ [x]).length = l.length + 1 := by simp
theorem Own.base {α : Type} [Dat α] {w : World} {S : Nat → Prop} {base base' : Nat} {e : TypeId} {v : Value} {xs : List α} (h : Own w S base e v xs) (hb : base' ≤ base) : Own w S base' e v xs := by
  obtain ⟨css, h1, h2, h3⟩ := h
  refine ⟨css, ⟨h1.1, ?_⟩, h2, fun i x cs hi hc => Dat.keep (fun _ _ _ => rfl) (fun b hb' => ⟨hb'.1.imp id (fun h => Nat.le_trans hb h), hb'.2⟩) (h3 i x cs hi hc)⟩
  rcases h1.2 with h | ⟨g, cap, cur, q1, q2, q3⟩
  · exact .inl h
  · exact .inr ⟨g, cap, cur, q1, Nat.le_trans hb q2, q3⟩

/-- A block that is known whole holds a row of elements. -/
theorem els_of_blk {α : Type} [Dat α] {w : World} {S : Nat → Prop} {g : Nat} {t : TypeId} {xs : List α} {cells : Array Value} (css : List (List Value)) (hb : Blk' w g t cells) (hc : cells = css.flatten.toArray) (hl : css.length = xs.length)
    (hr : ∀ (i : Nat) (x : α) (cs : List Value), xs[i]? = some x → css[i]? = some cs → Dat.rd w S x cs) (hS : S g) : Els w S xs (some ⟨g, 0, none⟩) := by
  subst hc
  intro _
  refine ⟨g, 0, rfl, hS, fun i x hi => ?_⟩
  have hil : i < css.length := by have := (List.getElem?_eq_some_iff.1 hi).1; omega
  have hci : css[i]? = some css[i] := List.getElem?_eq_getElem hil
  refine ⟨css[i], hr i x _ hi hci, fun j u hu => ?_⟩
  have hcl : ∀ cs ∈ css, cs.length = Dat.size α := by
    intro cs hcs
    obtain ⟨k, hk, rfl⟩ := List.getElem_of_mem hcs
    exact Dat.len (hr k _ _ (List.getElem?_eq_getElem (by omega : k < xs.length)) (List.getElem?_eq_getElem hk))
  have hf := flat_get css hcl i j _ u hci hu
  rw [hb.cell]
  simpa [Nat.zero_add] using hf
theorem rd_two {α : Type} [Dat α] {w : World} {S : Nat → Prop} {x y : α} {cs ds : List Value} (h1 : Dat.rd w S x cs) (h2 : Dat.rd w S y ds) : ∀ (i : Nat) (z : α) (es : List Value), [x, y][i]? = some z → [cs, ds][i]? = some es → Dat.rd w S z es
  | 0, z, es, hi, hd => by simp at hi hd; subst hi; subst hd; exact h1
  | 1, z, es, hi, hd => by simp at hi hd; subst hi; subst hd; exact h2
  | _ + 2, z, es, hi, _ => by simp at hi
theorem rd_one {α : Type} [Dat α] {w : World} {S : Nat → Prop} {x : α} {cs : List Value} (h1 : Dat.rd w S x cs) : ∀ (i : Nat) (z : α) (es : List Value), [x][i]? = some z → [cs][i]? = some es → Dat.rd w S z es
  | 0, z, es, hi, hd => by simp at hi hd; subst hi; subst hd; exact h1
  | _ + 1, z, es, hi, _ => by simp at hi
end Go.Proofs.YtecofoilghdedaaDoor

/- A world that has kept all its blocks but those of a set. No program is named here. -/
namespace Go.Proofs.YtecofoilghdedaaDoor
open Go.RowKit
set_option linter.unusedVariables false

/-- w' is w with new blocks, and with writes to blocks of X alone. -/
structure Kept (X : Nat → Prop) (w w' : World) : Prop where
  os : w'.os = w.os
  tape : w'.tape = w.tape
  output : w'.output = w.output
  size : w.heap.size ≤ w'.heap.size
  block : ∀ k, k < w.heap.size → ¬ X k → w'.heap[k]? = w.heap[k]?
section
variable {X Y : Nat → Prop} {w w' w'' : World}
theorem Kept.refl (X : Nat → Prop) (w : World) : Kept X w w := ⟨rfl, rfl, rfl, Nat.le_refl _, fun _ _ _ => rfl⟩
theorem Kept.trans (h : Kept X w w') (k : Kept X w' w'') : Kept X w w'' :=
  ⟨k.os.trans h.os, k.tape.trans h.tape, k.output.trans h.output, Nat.le_trans h.size k.size, fun i hi hx => (k.block i (Nat.lt_of_lt_of_le hi h.size) hx).trans (h.block i hi hx)⟩
theorem Kept.mono (h : Kept X w w') (hx : ∀ b, b < w.heap.size → X b → Y b) : Kept Y w w' := ⟨h.os, h.tape, h.output, h.size, fun k hk hy => h.block k hk (fun hb => hy (hx k hk hb))⟩
theorem Kept.of_below (X : Nat → Prop) (h : Below w.heap.size w w') : Kept X w w' := ⟨h.os, h.tape, h.output, h.size, fun k hk _ => h.block k hk⟩
theorem Kept.of_grown {row : Option Nat} (h : w.grownBy w' row) (hX : ∀ k, row = some k → X k) : Kept X w w' := ⟨h.os, h.tape, h.output, h.size, fun k hk hx => h.block k hk (fun e => hx (hX k e.symm))⟩
theorem Kept.alloc (h : Kept X w w') (o : Obj) : Kept X w (w'.alloc o) := h.trans (Kept.of_below X ((Below.refl _ _).alloc (Nat.le_refl _) o))
theorem Kept.drew (h : Kept X w w') : Kept X w w'.drew := ⟨h.os, h.tape, h.output, h.size, h.block⟩
theorem Kept.below (h : Kept X w w') (k : Below w'.heap.size w' w'') : Kept X w w'' := h.trans (Kept.of_below X k)
theorem Kept.grown {row : Option Nat} (h : Kept X w w') (k : w'.grownBy w'' row) (hX : ∀ k, row = some k → X k ∨ w.heap.size ≤ k) : Kept X w w'' :=
  ⟨k.os.trans h.os, k.tape.trans h.tape, k.output.trans h.output, Nat.le_trans h.size k.size, fun i hi hx => (k.block i (Nat.lt_of_lt_of_le hi h.size) (fun e => by
    rcases hX i e.symm with q | q
    · exact hx q
    · omega)).trans (h.block i hi hx)⟩
theorem Kept.setCell (h : Kept X w w') {p : Addr} (hp : X p.block ∨ w.heap.size ≤ p.block) (u : Value) : Kept X w (w'.setCell p u) :=
  ⟨h.os, h.tape, h.output, by simpa [World.setCell] using h.size, fun i hi hx => (Below.heap_setCell _ _ _ _ (by
    rintro rfl
    rcases hp with q | q
    · exact hx q
    · omega)).trans (h.block i hi hx)⟩
theorem Kept.to_below {B : Nat} (h : Kept X w w') (hX : ∀ b, X b → B ≤ b) (hB : B ≤ w.heap.size) : Below B w w' :=
  ⟨h.os, h.tape, h.output, h.size, fun k hk => h.block k (by omega) (fun hx => by have := hX k hx; omega)⟩
theorem Kept.later (h : Kept X w w') (k : Kept Y w' w'') (hY : ∀ b, Y b → X b ∨ w.heap.size ≤ b) : Kept X w w'' :=
  ⟨k.os.trans h.os, k.tape.trans h.tape, k.output.trans h.output, Nat.le_trans h.size k.size, fun i hi hx => (k.block i (Nat.lt_of_lt_of_le hi h.size) (fun hy => by
    rcases hY i hy with q | q
    · exact hx q
    · omega)).trans (h.block i hi hx)⟩
theorem Kept.undrew {w : World} (h : Kept X w.drew w') : Kept X w w' := ⟨h.os, h.tape, h.output, h.size, h.block⟩
theorem Kept.cell {p : Addr} (h : Kept X w w') (hp : p.block < w.heap.size) (hx : ¬ X p.block) : w'.cell? p = w.cell? p := World.cell?_of_block (h.block p.block hp hx)
theorem Blk'.kept {g : Nat} {t : TypeId} {cs : Array Value} (h : Blk' w g t cs) (k : Kept X w w') (hx : ¬ X g) : Blk' w' g t cs := (k.block g h.lt hx).trans h
theorem Els.kept {α : Type} [Dat α] {S : Nat → Prop} {xs : List α} {A : Option Addr} (h : Els w S xs A) (k : Kept X w w') (hx : ∀ b, S b → ¬ X b) : Els w' S xs A :=
  h.keep (fun p hs hp => k.cell hp (hx _ hs)) (fun _ h => h)
theorem Vl.kept {α : Type} [Dat α] {S : Nat → Prop} {x : α} {v : Value} (h : Vl w S x v) (k : Kept X w w') (hx : ∀ b, S b → ¬ X b) : Vl w' S x v :=
  h.keep (fun p hs hp => k.cell hp (hx _ hs)) (fun _ h => h)
theorem Own.kept {α : Type} [Dat α] {S : Nat → Prop} {base : Nat} {e : TypeId} {v : Value} {xs : List α} (h : Own w S base e v xs) (k : Kept X w w') (hx : ∀ b, X b → ¬ (S b ∨ base ≤ b)) : Own w' S base e v xs := by
  obtain ⟨css, h1, h2, h3⟩ := h
  have hg : ∀ g, v.ownBlock = some g → w'.heap[g]? = w.heap[g]? := fun g hg => k.block g (h1.lt g hg).2 (fun hX => hx g hX (.inr (h1.lt g hg).1))
  refine ⟨css, ?_, h2, fun i x cs hi hc => Dat.keep (fun p hp hlt => k.cell hlt (fun hX => hx _ hX hp.1)) (fun b hb => ⟨hb.1, hb.2.1, Nat.lt_of_lt_of_le hb.2.2 k.size⟩) (h3 i x cs hi hc)⟩
  refine ⟨h1.1, ?_⟩
  rcases h1.2 with q | ⟨g, cap, cur, q1, q2, q3, q4⟩
  · exact .inl q
  · exact .inr ⟨g, cap, cur, q1, q2, (hg g (by rw [q1]; rfl)).trans q3, q4⟩
end
end Go.Proofs.YtecofoilghdedaaDoor

/- Steps of a region that draws its order, by hand: the operation is read off the written-out list. No program is named here. -/
namespace Go.Proofs.YtecofoilghdedaaDoor
open Go.RowKit
set_option linter.unusedVariables false

theorem drop_get {l : List Oper} {i : Nat} {o : Oper} {rest : List Oper} (h : l.drop i = o :: rest) : l.toArray[i]? = some o := by
  have h1 : (l.drop i)[0]? = some o := by rw [h]; rfl
  simpa using h1
section
variable {P : Program} {l : List Oper} {Q : Exit → Act → World → Prop} {md : Region.Mode} {S : World → Prop}
/-- An operation that runs, and only reads. -/
theorem take_run {i : Nat} {oi : Oper} {rest : List Oper} {v : Value} {fuel : Nat} {listed : Array Bool} {a : Act} {w : World} (hi : l.drop i = oi :: rest)
    (hs : Region.noSelect l.toArray = true) (hf : Region.free md l.toArray listed i = true) (hr : (Region.ready md l.toArray listed).contains i = true)
    (hQ : ∀ c a w, Q (.panic c) (a.put oi.dst v) w → Q (.panic c) a w) (hw : Region.wanted oi (yielded l.toArray a.tmps) = true) (hy : ∀ w, S w → (execOp a.eval oi).run P w = .ok (.value v) w) (hS : S w)
    (h : wpAnyH P md l.toArray Q S fuel (listed.setIfInBounds i true) (a.put oi.dst v) w) : wpAnyH P md l.toArray Q S (fuel + 1) listed a w :=
  wpAnyH_take (drop_get hi) hs hf hr hQ (.inl ⟨hw, hy⟩) hS h
/-- An operation whose guard bars it. -/
theorem take_bar {i : Nat} {oi : Oper} {rest : List Oper} {fuel : Nat} {listed : Array Bool} {a : Act} {w : World} (hi : l.drop i = oi :: rest)
    (hs : Region.noSelect l.toArray = true) (hf : Region.free md l.toArray listed i = true) (hr : (Region.ready md l.toArray listed).contains i = true)
    (hQ : ∀ c a w, Q (.panic c) (a.put oi.dst undef) w → Q (.panic c) a w) (hw : Region.wanted oi (yielded l.toArray a.tmps) = false) (hS : S w)
    (h : wpAnyH P md l.toArray Q S fuel (listed.setIfInBounds i true) (a.put oi.dst undef) w) : wpAnyH P md l.toArray Q S (fuel + 1) listed a w :=
  wpAnyH_take (drop_get hi) hs hf hr hQ (.inr ⟨hw, rfl⟩) hS h
/-- A call that alone may come up. -/
theorem take_call {i : Nat} {o : Oper} {rest : List Oper} {fuel : Nat} {listed : Array Bool} {a : Act} {w : World} (hi : l.drop i = o :: rest) (hr : Region.ready md l.toArray listed = [i]) (hw : Region.wanted o (yielded l.toArray a.tmps) = true)
    (h : ∀ K' : Act → World → Prop, Shut (∀ a w, S w → (S w → wpAnyH P md l.toArray Q S fuel (listed.setIfInBounds i true) a w) → K' a w) → Oper.wp P o a w K' Q) : wpAnyH P md l.toArray Q S (fuel + 1) listed a w :=
  wpAnyH_ready hr (by simp) (AllReadyH.cons (drop_get hi) (fun K hK => by rw [if_pos hw]; exact h K hK) AllReadyH.nil)
/-- Two operations that may come up. -/
theorem take_two {i j : Nat} {o o' : Oper} {rest rest' : List Oper} {fuel : Nat} {listed : Array Bool} {a : Act} {w : World} (hi : l.drop i = o :: rest) (hj : l.drop j = o' :: rest') (hr : Region.ready md l.toArray listed = [i, j]) (hwi : Region.wanted o (yielded l.toArray a.tmps) = true) (hwj : Region.wanted o' (yielded l.toArray a.tmps) = true)
    (h1 : ∀ K' : Act → World → Prop, Shut (∀ a w, S w → (S w → wpAnyH P md l.toArray Q S fuel (listed.setIfInBounds i true) a w) → K' a w) → Oper.wp P o a w K' Q)
    (h2 : ∀ K' : Act → World → Prop, Shut (∀ a w, S w → (S w → wpAnyH P md l.toArray Q S fuel (listed.setIfInBounds j true) a w) → K' a w) → Oper.wp P o' a w K' Q) : wpAnyH P md l.toArray Q S (fuel + 1) listed a w :=
  wpAnyH_ready hr (by simp) (AllReadyH.cons (drop_get hi) (fun K hK => by rw [if_pos hwi]; exact h1 K hK) (AllReadyH.cons (drop_get hj) (fun K hK => by rw [if_pos hwj]; exact h2 K hK) AllReadyH.nil))
end
end Go.Proofs.YtecofoilghdedaaDoor

/- A region that draws its order, by hand: the held condition S is wanted until operation d has come up, and no longer (so a region's own last stores may turn cells that its loads read). No program is named here. -/
namespace Go.Proofs.YtecofoilghdedaaDoor
open Go.RowKit
set_option linter.unusedVariables false

/-- Whatever order is picked; behind each operation ahead of d S holds. -/
def wpAnyD (P : Program) (md : Region.Mode) (ops : Array Oper) (Q : Exit → Act → World → Prop) (S : World → Prop) (d : Nat) : Nat → Array Bool → Act → World → Prop
  | 0, listed, a, w => Region.ready md ops listed = [] ∧ Q .normal a w
  | fuel + 1, listed, a, w =>
    (Region.ready md ops listed = [] → Q .normal a w) ∧
    ∀ i ∈ Region.ready md ops listed, wpOp P ops Q i (fun a' w' => (i ≠ d → listed.getD d false = false → S w') ∧ wpAnyD P md ops Q S d fuel (listed.setIfInBounds i true) a' w') a w
section
variable {P : Program} {ops : Array Oper} {Q : Exit → Act → World → Prop} {md : Region.Mode} {S : World → Prop} {d : Nat}
theorem wpAny_of_stage : ∀ (fuel : Nat) (listed : Array Bool) (a : Act) (w : World), wpAnyD P md ops Q S d fuel listed a w → wpAny P md ops Q fuel listed a w
  | 0, _, _, _, h => h
  | fuel + 1, _, _, _, h => ⟨h.1, fun i hi => wpOp_mono (fun a' w' h' => wpAny_of_stage fuel _ a' w' h'.2) (h.2 i hi)⟩
theorem wpAnyD_done {listed : Array Bool} {a : Act} {w : World} (hr : Region.ready md ops listed = []) (h : Q .normal a w) : ∀ fuel, wpAnyD P md ops Q S d fuel listed a w
  | 0 => ⟨hr, h⟩
  | _ + 1 => ⟨fun _ => h, by rw [hr]; simp⟩
theorem getD_other {l : Array Bool} {i j : Nat} (h : i ≠ j) (b : Bool) : (l.setIfInBounds i true).getD j b = l.getD j b := by
  simp only [Array.getD_eq_getD_getElem?]
  rw [Array.getElem?_setIfInBounds, if_neg h]
/-- An operation that d waits for, or one that yields in whatever world, may be taken first. -/
theorem wpAnyD_first {i : Nat} {oi : Oper} {v : Value} (hi : ops[i]? = some oi) (hsel : ∀ (j : Nat) (o : Oper) cs b, ops[j]? = some o → o.op ≠ .select cs b)
    (hQ : ∀ c a w, Q (.panic c) (a.put oi.dst v) w → Q (.panic c) a w) (hid : i ≠ d) (T : World → Prop)
    (hT : (∀ w, T w) ∨ ((∀ w, S w → T w) ∧ ∀ od, ops[d]? = some od → ∃ e ∈ od.after, Region.binds md e = true ∧ e.on = i)) :
    ∀ (fuel : Nat) (listed : Array Bool) (a : Act) (w : World),
      (∀ j oj, ops[j]? = some oj → j ≠ i → listed.getD j true = false → (∀ e ∈ oj.after, Region.binds md e = true → e.on ≠ i) → oi.apart ops oj = true) →
      i ∈ Region.ready md ops listed → YieldsIf P ops T oi v a → (listed.getD d false = false → S w) → ((∀ w, T w) ∨ listed.getD d false = false) →
      wpAnyD P md ops Q S d fuel (listed.setIfInBounds i true) (a.put oi.dst v) w → wpAnyD P md ops Q S d (fuel + 1) listed a w := by
  intro fuel
  induction fuel with
  | zero =>
    intro listed a w _ hr hy hS hl H
    refine ⟨fun h => (by rw [h] at hr; cases hr), fun j hj => ?_⟩
    by_cases hji : j = i
    · subst hji
      have hTw : T w := by
        rcases hT with h | h
        · exact h w
        · rcases hl with h' | h'
          · exact h' w
          · exact h.1 w (hS h')
      exact hy.wpOp hi hTw ⟨fun _ h => hS h, H⟩
    · have := ready_mono hj hji
      rw [H.1] at this
      cases this
  | succ fuel ih =>
    intro listed a w hfree hr hy hS hl H
    refine ⟨fun h => (by rw [h] at hr; cases hr), fun j hj => ?_⟩
    by_cases hji : j = i
    · subst hji
      have hTw : T w := by
        rcases hT with h | h
        · exact h w
        · rcases hl with h' | h'
          · exact h' w
          · exact h.1 w (hS h')
      exact hy.wpOp hi hTw ⟨fun _ h => hS h, H⟩
    · have h1 := H.2 j (ready_mono hj hji)
      obtain ⟨hjun, oj, hoj, hall⟩ := mem_ready.1 hj
      have hnot : ∀ e ∈ oj.after, Region.binds md e = true → e.on ≠ i := fun e he hb heq => by
        have h1 := hall e he hb
        have h0 := (mem_ready.1 hr).1
        rw [heq] at h1
        rcases Nat.lt_or_ge i listed.size with h' | h'
        · simp [h'] at h0 h1; rw [h0] at h1; cases h1
        · simp [Array.getElem?_eq_none h'] at h1
      have h2 := wpOp_putIf hoj (hfree j oj hoj hji hjun hnot) (fun cs b => hsel i oi cs b hi) (fun cs b => hsel j oj cs b hoj) hQ hy h1
      have hfree' : ∀ k ok, ops[k]? = some ok → k ≠ i → (listed.setIfInBounds j true).getD k true = false →
          (∀ e ∈ ok.after, Region.binds md e = true → e.on ≠ i) → oi.apart ops ok = true := fun k ok hk hki hun hno => by
        refine hfree k ok hk hki ?_ hno
        by_cases hjk : j = k
        · subst hjk; exact hjun
        · rw [getD_set_ne true hjk] at hun; exact hun
      have hgi : (listed.setIfInBounds i true).getD d false = listed.getD d false := getD_other hid false
      refine wpOp_mono (fun a' w' h3 => ?_) h2
      have hS' : j ≠ d → listed.getD d false = false → S w' := fun h h' => h3.2.1 h (by rw [hgi]; exact h')
      refine ⟨hS', ih (listed.setIfInBounds j true) a' w' hfree' (ready_mono hr (Ne.symm hji)) h3.1 ?_ ?_ ?_⟩
      · intro hd
        by_cases hjd : j = d
        · subst hjd
          have hlt : j < listed.size := by
            rcases Nat.lt_or_ge j listed.size with h | h
            · exact h
            · have := (mem_ready.1 hj).1
              simp [Array.getElem?_eq_none h] at this
          simp [Array.getD_eq_getD_getElem?, Array.getElem?_setIfInBounds, hlt] at hd
        · rw [getD_other hjd] at hd
          exact hS' hjd hd
      · rcases hl with h' | h'
        · exact .inl h'
        · rcases hT with h | h
          · exact .inl h
          · refine .inr ?_
            have hjd : j ≠ d := by
              rintro rfl
              obtain ⟨e, he, hb, hon⟩ := h.2 oj hoj
              exact hnot e he hb hon
            rw [getD_other hjd]
            exact h'
      · rw [Array.setIfInBounds_comm _ _ hji]
        exact h3.2.2
end
section
variable {P : Program} {l : List Oper} {Q : Exit → Act → World → Prop} {md : Region.Mode} {S : World → Prop} {d : Nat}
theorem stage_start {id : Nat} {a : Act} {w : World} (d : Nat) (hm : P.follows .mixedOrders = true) (hS : S w.drew)
    (h : S w.drew → wpAnyD P .any l.toArray Q S d l.toArray.size (Array.replicate l.toArray.size false) a w.drew) : (Code.region id l.toArray true).wp P Q a w :=
  wp_region_any hm (wpAny_of_stage _ _ _ _ (h hS))
/-- Does operation d wait for operation i? -/
def waitsB (md : Region.Mode) (ops : Array Oper) (d i : Nat) : Bool := match ops[d]? with
  | some od => od.after.any fun e => Region.binds md e && e.on == i
  | none => true
theorem waitsB_spec {ops : Array Oper} {i : Nat} (h : waitsB md ops d i = true) : ∀ od, ops[d]? = some od → ∃ e ∈ od.after, Region.binds md e = true ∧ e.on = i := by
  intro od ho
  unfold waitsB at h
  rw [ho] at h
  obtain ⟨e, he, h⟩ := Array.any_eq_true'.1 h
  simp only [Bool.and_eq_true, beq_iff_eq] at h
  exact ⟨e, he, h⟩
/-- A load ahead of d. -/
theorem st_run {i : Nat} {oi : Oper} {rest : List Oper} {v : Value} {fuel : Nat} {listed : Array Bool} {a : Act} {w : World} (hi : l.drop i = oi :: rest)
    (hs : Region.noSelect l.toArray = true) (hf : Region.free md l.toArray listed i = true) (hr : (Region.ready md l.toArray listed).contains i = true) (hid : (i != d && waitsB md l.toArray d i && !listed.getD d false) = true)
    (hQ : ∀ c a w, Q (.panic c) (a.put oi.dst v) w → Q (.panic c) a w) (hw : Region.wanted oi (yielded l.toArray a.tmps) = true) (hy : ∀ w, S w → (execOp a.eval oi).run P w = .ok (.value v) w) (hS : S w)
    (h : wpAnyD P md l.toArray Q S d fuel (listed.setIfInBounds i true) (a.put oi.dst v) w) : wpAnyD P md l.toArray Q S d (fuel + 1) listed a w := by
  simp only [Bool.and_eq_true, bne_iff_ne, Bool.not_eq_true'] at hid
  exact wpAnyD_first (drop_get hi) (Region.noSelect_spec hs) hQ hid.1.1 S (.inr ⟨fun _ h => h, waitsB_spec hid.1.2⟩) fuel listed a w (Region.free_spec (drop_get hi) hf) (by simpa using hr) (.inl ⟨hw, hy⟩) (fun _ => hS) (.inr hid.2) h
/-- An operation that yields in whatever world. -/
theorem st_pure {i : Nat} {oi : Oper} {rest : List Oper} {v : Value} {fuel : Nat} {listed : Array Bool} {a : Act} {w : World} (hi : l.drop i = oi :: rest)
    (hs : Region.noSelect l.toArray = true) (hf : Region.free md l.toArray listed i = true) (hr : (Region.ready md l.toArray listed).contains i = true) (hid : (i != d) = true)
    (hQ : ∀ c a w, Q (.panic c) (a.put oi.dst v) w → Q (.panic c) a w) (hw : Region.wanted oi (yielded l.toArray a.tmps) = true) (hy : ∀ w, (execOp a.eval oi).run P w = .ok (.value v) w) (hS : S w ∨ listed.getD d false = true)
    (h : wpAnyD P md l.toArray Q S d fuel (listed.setIfInBounds i true) (a.put oi.dst v) w) : wpAnyD P md l.toArray Q S d (fuel + 1) listed a w := by
  refine wpAnyD_first (drop_get hi) (Region.noSelect_spec hs) hQ (by simpa using hid) (fun _ => True) (.inl fun _ => trivial) fuel listed a w (Region.free_spec (drop_get hi) hf) (by simpa using hr) (.inl ⟨hw, fun w _ => hy w⟩) (fun h => ?_) (.inl fun _ => trivial) h
  rcases hS with hS | hS
  · exact hS
  · rw [h] at hS; cases hS
/-- An operation whose guard bars it. -/
theorem st_bar {i : Nat} {oi : Oper} {rest : List Oper} {fuel : Nat} {listed : Array Bool} {a : Act} {w : World} (hi : l.drop i = oi :: rest)
    (hs : Region.noSelect l.toArray = true) (hf : Region.free md l.toArray listed i = true) (hr : (Region.ready md l.toArray listed).contains i = true) (hid : (i != d) = true)
    (hQ : ∀ c a w, Q (.panic c) (a.put oi.dst undef) w → Q (.panic c) a w) (hw : Region.wanted oi (yielded l.toArray a.tmps) = false) (hS : S w ∨ listed.getD d false = true)
    (h : wpAnyD P md l.toArray Q S d fuel (listed.setIfInBounds i true) (a.put oi.dst undef) w) : wpAnyD P md l.toArray Q S d (fuel + 1) listed a w := by
  refine wpAnyD_first (drop_get hi) (Region.noSelect_spec hs) hQ (by simpa using hid) (fun _ => True) (.inl fun _ => trivial) fuel listed a w (Region.free_spec (drop_get hi) hf) (by simpa using hr) (.inr ⟨hw, rfl⟩) (fun h => ?_) (.inl fun _ => trivial) h
  rcases hS with hS | hS
  · exact hS
  · rw [h] at hS; cases hS
theorem st_ready {rs : List Nat} {fuel : Nat} {listed : Array Bool} {a : Act} {w : World} (hr : Region.ready md l.toArray listed = rs) (hne : rs ≠ [])
    (h : ∀ i ∈ rs, ∃ o, l.toArray[i]? = some o ∧ Region.wanted o (yielded l.toArray a.tmps) = true ∧ ∀ K' : Act → World → Prop, Shut (∀ a w, (i ≠ d → listed.getD d false = false → S w) → wpAnyD P md l.toArray Q S d fuel (listed.setIfInBounds i true) a w → K' a w) → Oper.wp P o a w K' Q) :
    wpAnyD P md l.toArray Q S d (fuel + 1) listed a w := by
  refine ⟨fun h0 => absurd (hr ▸ h0) hne, hr ▸ fun i hi => ?_⟩
  obtain ⟨o, ho, hw, h⟩ := h i hi
  refine wpOp_step ho fun K' hK => ?_
  rw [if_pos hw]
  exact h K' fun a w h1 h2 => hK a w ⟨h1, h2⟩
/-- The one operation that may come up, ahead of d. -/
theorem st_one {i : Nat} {o : Oper} {rest : List Oper} {fuel : Nat} {listed : Array Bool} {a : Act} {w : World} (hi : l.drop i = o :: rest) (hr : Region.ready md l.toArray listed = [i]) (hw : Region.wanted o (yielded l.toArray a.tmps) = true)
    (h : ∀ K' : Act → World → Prop, Shut (∀ a w, S w → (S w → wpAnyD P md l.toArray Q S d fuel (listed.setIfInBounds i true) a w) → K' a w) → Oper.wp P o a w K' Q) : wpAnyD P md l.toArray Q S d (fuel + 1) listed a w := by
  refine st_ready hr (by simp) fun j hj => ?_
  obtain rfl := List.mem_singleton.1 hj
  exact ⟨o, drop_get hi, hw, fun K' hK => h K' fun a w hS hW => hK.out a w (fun _ _ => hS) (hW hS)⟩
/-- The one operation that may come up, d itself or one behind it: S is wanted no longer. -/
theorem st_late {i : Nat} {o : Oper} {rest : List Oper} {fuel : Nat} {listed : Array Bool} {a : Act} {w : World} (hi : l.drop i = o :: rest) (hr : Region.ready md l.toArray listed = [i]) (hw : Region.wanted o (yielded l.toArray a.tmps) = true) (hd : (i == d || listed.getD d false) = true)
    (h : ∀ K' : Act → World → Prop, Shut (∀ a w, wpAnyD P md l.toArray Q S d fuel (listed.setIfInBounds i true) a w → K' a w) → Oper.wp P o a w K' Q) : wpAnyD P md l.toArray Q S d (fuel + 1) listed a w := by
  refine st_ready hr (by simp) fun j hj => ?_
  obtain rfl := List.mem_singleton.1 hj
  refine ⟨o, drop_get hi, hw, fun K' hK => h K' fun a w hW => hK.out a w (fun h1 h2 => ?_) hW⟩
  rw [Bool.or_eq_true] at hd
  rcases hd with hd | hd
  · exact absurd (by simpa using hd) h1
  · rw [h2] at hd; cases hd
/-- Two operations that may come up, ahead of d. -/
theorem st_two {i j : Nat} {o o' : Oper} {rest rest' : List Oper} {fuel : Nat} {listed : Array Bool} {a : Act} {w : World} (hi : l.drop i = o :: rest) (hj : l.drop j = o' :: rest') (hr : Region.ready md l.toArray listed = [i, j]) (hwi : Region.wanted o (yielded l.toArray a.tmps) = true) (hwj : Region.wanted o' (yielded l.toArray a.tmps) = true)
    (h1 : ∀ K' : Act → World → Prop, Shut (∀ a w, S w → (S w → wpAnyD P md l.toArray Q S d fuel (listed.setIfInBounds i true) a w) → K' a w) → Oper.wp P o a w K' Q)
    (h2 : ∀ K' : Act → World → Prop, Shut (∀ a w, S w → (S w → wpAnyD P md l.toArray Q S d fuel (listed.setIfInBounds j true) a w) → K' a w) → Oper.wp P o' a w K' Q) : wpAnyD P md l.toArray Q S d (fuel + 1) listed a w := by
  refine st_ready hr (by simp) fun k hk => ?_
  rcases List.mem_cons.1 hk with rfl | hk
  · exact ⟨o, drop_get hi, hwi, fun K' hK => h1 K' fun a w hS hW => hK.out a w (fun _ _ => hS) (hW hS)⟩
  · obtain rfl := List.mem_singleton.1 hk
    exact ⟨o', drop_get hj, hwj, fun K' hK => h2 K' fun a w hS hW => hK.out a w (fun _ _ => hS) (hW hS)⟩
end
end Go.Proofs.YtecofoilghdedaaDoor

/- The plain law of FirstWords: in sets that are closed under the rules, the word of a tree begins with a terminal of First of its root, and an empty word's root is in Null. No program is named here. -/
namespace Go.Proofs.YtecofoilghdedaaDoor
open Go.RowKit
set_option linter.unusedVariables false

/-- A row or another one. -/
def orRow : List Bool → List Bool → List Bool
  | [], _ => []
  | t :: ts, [] => t :: ts
  | t :: ts, f :: fs => (t || f) :: orRow ts fs
theorem orRow_len : ∀ (a b : List Bool), (orRow a b).length = a.length
  | [], _ => rfl
  | _ :: _, [] => rfl
  | _ :: ts, _ :: fs => by simp [orRow, orRow_len ts fs]
theorem orRow_left : ∀ (a b : List Bool) (j : Nat), a[j]? = some true → (orRow a b)[j]? = some true
  | [], _, _, h => by simp at h
  | t :: ts, [], j, h => by simpa [orRow] using h
  | t :: ts, f :: fs, 0, h => by simp at h; simp [orRow, h]
  | t :: ts, f :: fs, j + 1, h => by
    simp only [orRow, List.getElem?_cons_succ]
    exact orRow_left ts fs j (by simpa using h)
theorem orRow_right : ∀ (a b : List Bool) (j : Nat), a.length = b.length → b[j]? = some true → (orRow a b)[j]? = some true
  | [], [], _, _, h => by simp at h
  | [], _ :: _, _, hl, h => by simp at hl
  | t :: ts, [], j, hl, h => by simp at hl
  | t :: ts, f :: fs, 0, hl, h => by simp at h; simp [orRow, h]
  | t :: ts, f :: fs, j + 1, hl, h => by
    simp only [orRow, List.getElem?_cons_succ]
    exact orRow_right ts fs j (by simpa using hl) (by simpa using h)

/-- What first.Sets.Of computes, from a row on. -/
def ofFrom (e : List Bool) (f : List (List Bool)) : List Bool → List Sym → List Bool × Bool
  | out, [] => (out, true)
  | out, x :: xs => if x.term then (out.set x.n.toNat true, false) else if e.getD x.n.toNat false then ofFrom e f (orRow out (f.getD x.n.toNat [])) xs else (orRow out (f.getD x.n.toNat []), false)
theorem ofFrom_len (e : List Bool) (f : List (List Bool)) : ∀ (l : List Sym) (out : List Bool), (ofFrom e f out l).1.length = out.length
  | [], out => rfl
  | x :: xs, out => by
    unfold ofFrom
    split
    · simp
    · split
      · rw [ofFrom_len e f xs, orRow_len]
      · rw [orRow_len]
theorem ofFrom_mono (e : List Bool) (f : List (List Bool)) : ∀ (l : List Sym) (out : List Bool) (j : Nat), out[j]? = some true → (ofFrom e f out l).1[j]? = some true
  | [], out, j, h => h
  | x :: xs, out, j, h => by
    unfold ofFrom
    split
    · have hj := (List.getElem?_eq_some_iff.1 h).1
      simp only [List.getElem?_set]
      split
      · simp [hj]; omega
      · exact h
    · split
      · exact ofFrom_mono e f xs _ j (orRow_left _ _ _ h)
      · exact orRow_left _ _ _ h

mutual
/-- A tree of the grammar with a symbol at its root. -/
def vt (g : Gram) : Tree → Sym → Prop
  | ⟨r, t, ks⟩, s => if s.term then r = -1 ∧ t = s.n ∧ ks = [] else t = 0 ∧ 0 ≤ r ∧ ∃ q : Rule, g.rules[r.toNat]? = some q ∧ q.left = s.n ∧ vts g ks q.right
def vts (g : Gram) : List Tree → List Sym → Prop
  | [], [] => True
  | k :: ks, s :: ss => vt g k s ∧ vts g ks ss
  | [], _ :: _ => False
  | _ :: _, [] => False
end
mutual
/-- The word of a tree. -/
def yieldT : Tree → List Int
  | ⟨r, t, ks⟩ => if r < 0 then [t] else yields ks
def yields : List Tree → List Int
  | [] => []
  | k :: ks => yieldT k ++ yields ks
end

def InF (m : Nat) (f : List (List Bool)) (n : Nat) (c : Int) : Prop := 0 ≤ c ∧ c < (m : Int) ∧ (f.getD n [])[c.toNat]? = some true
/-- The sets are closed under the rules. -/
structure ClosedS (g : Gram) (m : Nat) (e : List Bool) (f : List (List Bool)) : Prop where
  rows : ∀ n : Nat, n < g.nons.toNat → (f.getD n []).length = m
  first : ∀ q ∈ g.rules, ∀ j : Nat, (ofFrom e f (List.replicate m false) q.right).1[j]? = some true → (f.getD q.left.toNat [])[j]? = some true
  null : ∀ q ∈ g.rules, (ofFrom e f (List.replicate m false) q.right).2 = true → e.getD q.left.toNat false = true
def SymIn (m : Nat) (g : Gram) (s : Sym) : Prop := 0 ≤ s.n ∧ if s.term then s.n < (m : Int) else s.n < g.nons

mutual
theorem first_tree {g : Gram} {m : Nat} {e : List Bool} {f : List (List Bool)} (hc : ClosedS g m e f) (hok : ∀ q ∈ g.rules, ∀ s ∈ q.right, SymIn m g s) :
    ∀ (t : Tree) (s : Sym), vt g t s → s.term = false → (yieldT t = [] → e.getD s.n.toNat false = true) ∧ ∀ c w, yieldT t = c :: w → InF m f s.n.toNat c
  | ⟨r, t, ks⟩, s, h, hs => by
    unfold vt at h
    rw [if_neg (by simp [hs])] at h
    obtain ⟨_, hr, q, hq, hql, hks⟩ := h
    have hm := List.mem_of_getElem? hq
    have hy : yieldT ⟨r, t, ks⟩ = yields ks := by unfold yieldT; rw [if_neg (by omega)]
    have ih := first_kids hc hok ks q.right (List.replicate m false) (by simp) (hok q hm) hks
    rw [hy, ← hql]
    exact ⟨fun h0 => hc.null q hm (ih.1 h0), fun c w hw => by
      obtain ⟨h1, h2, h3⟩ := ih.2 c w hw
      exact ⟨h1, h2, hc.first q hm _ h3⟩⟩
theorem first_kids {g : Gram} {m : Nat} {e : List Bool} {f : List (List Bool)} (hc : ClosedS g m e f) (hok : ∀ q ∈ g.rules, ∀ s ∈ q.right, SymIn m g s) :
    ∀ (ks : List Tree) (ss : List Sym) (out : List Bool), out.length = m → (∀ s ∈ ss, SymIn m g s) → vts g ks ss → (yields ks = [] → (ofFrom e f out ss).2 = true) ∧ ∀ c w, yields ks = c :: w → 0 ≤ c ∧ c < (m : Int) ∧ (ofFrom e f out ss).1[c.toNat]? = some true
  | [], [], out, _, _, _ => ⟨fun _ => rfl, fun c w h => by simp [yields] at h⟩
  | [], _ :: _, out, _, _, h => by unfold vts at h; exact h.elim
  | _ :: _, [], out, _, _, h => by unfold vts at h; exact h.elim
  | k :: ks, s :: ss, out, hl, hin, h => by
    unfold vts at h
    have hs := hin s (by simp)
    obtain ⟨hs0, hs1⟩ := hs
    cases hterm : s.term
    · rw [hterm] at hs1
      simp at hs1
      have hrow := hc.rows s.n.toNat (by omega)
      have iht := first_tree hc hok k s h.1 hterm
      have ihk := first_kids hc hok ks ss (orRow out (f.getD s.n.toNat [])) (by rw [orRow_len]; exact hl) (fun x hx => hin x (by simp [hx])) h.2
      have hof : ofFrom e f out (s :: ss) = if e.getD s.n.toNat false then ofFrom e f (orRow out (f.getD s.n.toNat [])) ss else (orRow out (f.getD s.n.toNat []), false) := by
        rw [ofFrom, hterm]; simp
      rw [hof]
      show (yieldT k ++ yields ks = [] → _) ∧ ∀ c w, yieldT k ++ yields ks = c :: w → _
      refine ⟨fun h0 => ?_, fun c w hw => ?_⟩
      · obtain ⟨h1, h2⟩ := List.append_eq_nil_iff.1 h0
        rw [if_pos (iht.1 h1)]
        exact ihk.1 h2
      · cases hyk : yieldT k with
        | nil =>
          rw [hyk] at hw
          rw [if_pos (iht.1 hyk)]
          exact ihk.2 c w hw
        | cons c' w' =>
          rw [hyk] at hw
          simp at hw
          obtain ⟨rfl, _⟩ := hw
          obtain ⟨h1, h2, h3⟩ := iht.2 _ _ hyk
          have h4 := orRow_right out (f.getD s.n.toNat []) c'.toNat (by rw [hl, hrow]) h3
          refine ⟨h1, h2, ?_⟩
          split
          · exact ofFrom_mono e f ss _ _ h4
          · exact h4
    · rw [hterm] at hs1
      simp at hs1
      have hk := h.1
      cases k with
      | mk r t kk =>
        unfold vt at hk
        rw [if_pos hterm] at hk
        obtain ⟨rfl, rfl, rfl⟩ := hk
        have hy : yields (⟨-1, s.n, []⟩ :: ks) = s.n :: yields ks := by simp [yields, yieldT]
        rw [hy]
        refine ⟨fun h0 => by simp at h0, fun c w hw => ?_⟩
        simp at hw
        obtain ⟨rfl, _⟩ := hw
        refine ⟨hs0, hs1, ?_⟩
        rw [ofFrom, if_pos hterm]
        simp only [List.getElem?_set]
        rw [if_pos trivial, if_pos (by omega)]
end
theorem orRow_or : ∀ (a b : List Bool) (j : Nat), (orRow a b)[j]? = some true → a[j]? = some true ∨ b[j]? = some true
  | [], _, _, h => by simp [orRow] at h
  | t :: ts, [], j, h => .inl (by simpa [orRow] using h)
  | t :: ts, u :: us, 0, h => by simp [orRow] at h; rcases h with h | h <;> simp [h]
  | t :: ts, u :: us, j + 1, h => by simpa using orRow_or ts us j (by simpa [orRow] using h)
end Go.Proofs.YtecofoilghdedaaDoor

/- Rows of bools that are known whole. No program is named here. -/
namespace Go.Proofs.YtecofoilghdedaaDoor
open Go.RowKit
set_option linter.unusedVariables false

def bcells (l : List Bool) : Array Value := (l.map Value.bool).toArray
theorem bcells_get {l : List Bool} {i : Nat} {x : Bool} (h : l[i]? = some x) : (bcells l)[i]? = some (.bool x) := by simp [bcells, h]
theorem bcells_set (l : List Bool) (i : Nat) (x : Bool) : (bcells l).setIfInBounds i (.bool x) = bcells (l.set i x) := by
  simp [bcells, List.map_set]
theorem orRow_take : ∀ (a b : List Bool) (k : Nat) (x y : Bool), a[k]? = some x → b[k]? = some y → orRow a (b.take (k + 1)) = (orRow a (b.take k)).set k (x || y)
  | [], _, _, _, _, h, _ => by simp at h
  | _ :: _, [], _, _, _, _, h => by simp at h
  | t :: ts, f :: fs, 0, x, y, h1, h2 => by
    simp at h1 h2
    subst h1; subst h2
    cases ts <;> simp [orRow]
  | t :: ts, f :: fs, k + 1, x, y, h1, h2 => by
    have ih := orRow_take ts fs k x y (by simpa using h1) (by simpa using h2)
    simp only [List.take_succ_cons, orRow, List.set_cons_succ]
    rw [ih]
theorem orRow_nil : ∀ (a : List Bool), orRow a [] = a
  | [] => rfl
  | _ :: _ => rfl
theorem orRow_get : ∀ (a b : List Bool) (k j : Nat) (x : Bool), a[j]? = some x → k ≤ j → (orRow a (b.take k))[j]? = some x
  | [], _, _, _, _, h, _ => by simp at h
  | t :: ts, [], k, j, x, h, _ => by simpa [orRow] using h
  | t :: ts, f :: fs, 0, j, x, h, _ => by simpa [orRow] using h
  | t :: ts, f :: fs, k + 1, 0, x, h, hk => by omega
  | t :: ts, f :: fs, k + 1, j + 1, x, h, hk => by
    simp only [List.take_succ_cons, orRow, List.getElem?_cons_succ]
    exact orRow_get ts fs k j x (by simpa using h) (by omega)
theorem set_same {α : Type} {l : List α} {k : Nat} {x : α} (h : l[k]? = some x) : l.set k x = l := by
  apply List.ext_getElem?
  intro j
  rw [List.getElem?_set]
  by_cases e : k = j
  · subst e; simp [h]; exact (List.getElem?_eq_some_iff.1 h).1
  · simp [e]

theorem bcells_size (l : List Bool) : (bcells l).size = l.length := by simp [bcells]
theorem slack_get {a z : Array Value} {k : Nat} (h : k < a.size) : (a ++ z)[k]? = a[k]? := by
  rw [Array.getElem?_append]; simp [h]
theorem slack_set {a z : Array Value} {k : Nat} {v : Value} (h : k < a.size) : (a ++ z).setIfInBounds k v = a.setIfInBounds k v ++ z := by
  apply Array.ext'
  simp only [Array.toList_setIfInBounds, Array.toList_append]
  rw [List.set_append_left _ _ (by simpa using h)]
end Go.Proofs.YtecofoilghdedaaDoor

/- Rows of bools that the call itself makes: the ground of their memory. -/
namespace Go.Proofs.YtecofoilghdedaaDoor
open Go.RowKit
set_option linter.unusedVariables false

def rowSl (b m : Nat) : Value := .slice (some ⟨b, 0, none⟩) m m
theorem infoBool1 : (Tryd.prog.info? 4).map (fun i => (i.zero, i.size, i.bytes)) = some (some (.bool false), 1, 1) := by kernel_rfl
theorem make_eq (n : Nat) (hn : n ≤ 1000000) (W : World) : (Instr.makeSlice 85 (.int .i64 (n : Int)) (.int .i64 (n : Int))).run Tryd.prog W = .ok (.slice (some ⟨W.heap.size, 0, none⟩) n n) (W.alloc (.cells (bcells (List.replicate n false)) 4)) := by
  obtain ⟨i0, hi, hz0, hz1, hz2⟩ := info_parts infoBool1
  have h := run_makeSlice (P := Tryd.prog) W 85 4 i0 (.bool false) Tryd.underlying85 hi hz0 .i64 .i64 (n : Int) (n : Int) (by omega) (Int.le_refl _) (by rw [hz1]; simp; omega) (by rw [hz2]; omega) (by omega)
  rw [h, hz1]
  simp only [Int.toNat_natCast]
  have e : madeCells (Value.bool false).cells (n * 1) = bcells (List.replicate n false) := by
    apply Array.ext'
    show (madeCells #[Value.bool false] (n * 1)).toList = _
    rw [toList_madeCells_one]
    simp [bcells]
  rw [e]

theorem step_row1 {P : Program} {w : World} {ops : Array Oper} {o : Oper} {a : Act} {K : Act → World → Prop} {Q : Exit → Act → World → Prop} {E : Prop} {base : Nat} {α : Type} [Dat α] (hgd : o.guard = none) (s xo : Operand) {t e : TypeId} {bytes : Nat} (hT : ElemT P α t e bytes) (hsz : Dat.size α = 1)
    (ho : o.op = .call { callee := .builtin .append, args := #[s, xo], argTypes := #[t, t] })
    {v : Value} {n : Nat} {xs : List Value} (hs : a.eval s = v) (hown : w.ownsRow base e 1 v n xs) {u : Value} {g c : Nat} (hx : a.eval xo = .slice (some ⟨g, 0, none⟩) 1 c) (hat : w.cell? ⟨g, 0, none⟩ = some u) (hu : u.oneCell' = true)
    (hlen : (n + 1) * bytes ≤ 140737488355328) (hmax : n + 1 ≤ 9223372036854775807) (hbase : base ≤ w.heap.size)
    (h : ∀ v' w', w'.ownsRow base e 1 v' (n + 1) (xs ++ [u]) → w.grownBy w' v.ownBlock → (v'.ownBlock = v.ownBlock ∨ v'.ownBlock = some w.heap.size) → K (a.put o.dst v') w') :
    if Region.wanted o (yielded ops a.tmps) = true then Oper.wp P o a w K Q else E := by
  have hw : Region.wanted o (yielded ops a.tmps) = true := by simp [Region.wanted, hgd]
  rw [if_pos hw]
  obtain ⟨i, z, ht, hi, hz, hsize, hby, hzs⟩ := hT
  rw [hsz] at hsize hzs
  obtain ⟨v', w', hrun, h2, h3, _, h4⟩ := run_append_own_at (P := P) w base t o.type e i z 1 bytes ht hi hz hsize hby hzs (by decide) v n xs hown ⟨g, 0, none⟩ 1 c [u] rfl
    (by intro j u' hj; match j with
        | 0 => simp at hj; subst hj; simpa [Addr.add] using hat
        | j + 1 => simp at hj) (by intro u' hu'; simp at hu'; subst hu'; exact hu) (by simpa [maxLen] using hmax) hlen hbase
  unfold Oper.wp execOp
  simp only [ho, resolve, invoke, builtin, Sem.run_bind, Sem.run_pure, Result.andThen_ok, List.map_toArray, List.map_cons, List.map_nil, hs, hx, hrun]
  exact h v' w' h2 h3 h4

theorem row_below {w w' : World} {base : Nat} {e : TypeId} {size : Nat} {v : Value} {n : Nat} {xs : List Value} (h : w.ownsRow base e size v n xs) (hb : Below w.heap.size w w') : w'.ownsRow base e size v n xs := by
  refine h.kept (row := none) ⟨hb.os, hb.tape, hb.output, hb.size, fun k hk _ => hb.block k hk⟩ ?_
  cases hv : v.ownBlock <;> simp
theorem row_kept {X : Nat → Prop} {w w' : World} {base : Nat} {e : TypeId} {size : Nat} {v : Value} {n : Nat} {xs : List Value} (h : w.ownsRow base e size v n xs) (k : Kept X w w') (hx : ∀ b, v.ownBlock = some b → ¬ X b) : w'.ownsRow base e size v n xs := by
  refine ⟨h.1, ?_⟩
  rcases h.2 with q | ⟨g, cap, cur, q1, q2, q3, q4⟩
  · exact .inl q
  · have hg : v.ownBlock = some g := by rw [q1]; rfl
    exact .inr ⟨g, cap, cur, q1, q2, (k.block g (h.lt g hg).2 (hx g hg)).trans q3, q4⟩
theorem row_form {w : World} {base : Nat} {e : TypeId} {size : Nat} {v : Value} {n : Nat} {xs : List Value} (h : w.ownsRow base e size v n xs) : ∃ A c, v = .slice A n c := by
  rcases h.2 with ⟨q, rfl⟩ | ⟨g, cap, cur, q1, _⟩
  · exact ⟨_, _, q⟩
  · exact ⟨_, _, q1⟩
end Go.Proofs.YtecofoilghdedaaDoor

/- A slice of rows of bools that the call itself has made: its memory; rows made one by one. -/
namespace Go.Proofs.YtecofoilghdedaaDoor
open Go.RowKit
set_option linter.unusedVariables false

structure RowsM (w : World) (bf : Nat) (bs : List Nat) (m n cf : Nat) (f : List (List Bool)) : Prop where
  flen : f.length = n
  blen : bs.length = n
  outer : ∀ (i b : Nat), bs[i]? = some b → w.cell? ⟨bf, i, none⟩ = some (rowSl b m)
  rows : ∀ (i b : Nat) (row : List Bool), bs[i]? = some b → f[i]? = some row → Blk' w b 4 (bcells row) ∧ row.length = m
  nodup : (bf :: bs).Nodup
  bflt : bf < w.heap.size
  cap : n ≤ cf ∧ cf ≤ 9223372036854775807
section
variable {w w' : World} {bf m n cf : Nat} {bs : List Nat} {f : List (List Bool)}
theorem RowsM.kept {X : Nat → Prop} (h : RowsM w bf bs m n cf f) (k : Kept X w w') (hx : ∀ b ∈ bf :: bs, ¬ X b) : RowsM w' bf bs m n cf f :=
  ⟨h.flen, h.blen, fun i b hb => (k.cell (p := ⟨bf, i, none⟩) h.bflt (hx _ (by simp))).trans (h.outer i b hb),
    fun i b row hb hr => ⟨(h.rows i b row hb hr).1.kept k (hx _ (by simp [List.mem_of_getElem? hb])), (h.rows i b row hb hr).2⟩, h.nodup, Nat.lt_of_lt_of_le h.bflt k.size, h.cap⟩
theorem RowsM.below (h : RowsM w bf bs m n cf f) (k : Below w.heap.size w w') : RowsM w' bf bs m n cf f :=
  h.kept (Kept.of_below (fun _ => False) k) (fun _ _ h => h)
theorem RowsM.lt (h : RowsM w bf bs m n cf f) : ∀ b ∈ bf :: bs, b < w.heap.size := by
  intro b hb
  rcases List.mem_cons.1 hb with rfl | hb
  · exact h.bflt
  obtain ⟨i, hi, rfl⟩ := List.getElem_of_mem hb
  have h1 : i < f.length := by have := h.blen; have := h.flen; omega
  exact (h.rows i _ _ (List.getElem?_eq_getElem hi) (List.getElem?_eq_getElem h1)).1.lt
theorem RowsM.setRow (h : RowsM w bf bs m n cf f) {i bi : Nat} {row' : List Bool} (hi : bs[i]? = some bi) (k : Kept (fun b => b = bi) w w') (hb : Blk' w' bi 4 (bcells row')) (hl : row'.length = m) : RowsM w' bf bs m n cf (f.set i row') := by
  have hm := List.mem_of_getElem? hi
  have hnd := h.nodup
  simp only [List.nodup_cons] at hnd
  obtain ⟨n6, n7⟩ := hnd
  refine ⟨by simp [h.flen], h.blen, fun j b hb' => (k.cell (p := ⟨bf, j, none⟩) h.bflt (fun e => n6 (by have e' : bf = bi := e; exact e' ▸ hm))).trans (h.outer j b hb'), fun j b row hjb hjr => ?_, h.nodup, Nat.lt_of_lt_of_le h.bflt k.size, h.cap⟩
  rw [List.getElem?_set] at hjr
  split at hjr
  · rename_i e
    subst e
    split at hjr
    · injection hjr with hjr
      subst hjr
      rw [hi] at hjb
      injection hjb with hjb
      subst hjb
      exact ⟨hb, hl⟩
    · cases hjr
  · rename_i e
    have hr := h.rows j b row hjb hjr
    refine ⟨hr.1.kept k (fun e' => ?_), hr.2⟩
    subst e'
    obtain ⟨q1, q2⟩ := List.getElem?_eq_some_iff.1 hi
    obtain ⟨q3, q4⟩ := List.getElem?_eq_some_iff.1 hjb
    exact e ((List.getElem_inj n7).1 (q2.trans q4.symm))
end

theorem wp_row1 {P : Program} {w : World} {o : Oper} {a : Act} {K : Act → World → Prop} {Q : Exit → Act → World → Prop} {base : Nat} {α : Type} [Dat α] (s xo : Operand) {t e : TypeId} {bytes : Nat} (hT : ElemT P α t e bytes) (hsz : Dat.size α = 1)
    (ho : o.op = .call { callee := .builtin .append, args := #[s, xo], argTypes := #[t, t] })
    {v : Value} {n : Nat} {xs : List Value} (hs : a.eval s = v) (hown : w.ownsRow base e 1 v n xs) {u : Value} {g c : Nat} (hx : a.eval xo = .slice (some ⟨g, 0, none⟩) 1 c) (hat : w.cell? ⟨g, 0, none⟩ = some u) (hu : u.oneCell' = true)
    (hlen : (n + 1) * bytes ≤ 140737488355328) (hmax : n + 1 ≤ 9223372036854775807) (hbase : base ≤ w.heap.size)
    (h : ∀ v' w', w'.ownsRow base e 1 v' (n + 1) (xs ++ [u]) → w.grownBy w' v.ownBlock → (v'.ownBlock = v.ownBlock ∨ v'.ownBlock = some w.heap.size) → K (a.put o.dst v') w') : o.wp P a w K Q := by
  obtain ⟨i, z, ht, hi, hz, hsize, hby, hzs⟩ := hT
  rw [hsz] at hsize hzs
  obtain ⟨v', w', hrun, h2, h3, _, h4⟩ := run_append_own_at (P := P) w base t o.type e i z 1 bytes ht hi hz hsize hby hzs (by decide) v n xs hown ⟨g, 0, none⟩ 1 c [u] rfl
    (by intro j u' hj; match j with
        | 0 => simp at hj; subst hj; simpa [Addr.add] using hat
        | j + 1 => simp at hj) (by intro u' hu'; simp at hu'; subst hu'; exact hu) (by simpa [maxLen] using hmax) hlen hbase
  unfold Oper.wp execOp
  simp only [ho, resolve, invoke, builtin, Sem.run_bind, Sem.run_pure, Result.andThen_ok, List.map_toArray, List.map_cons, List.map_nil, hs, hx, hrun]
  exact h v' w' h2 h3 h4
theorem wpList_row1 {P : Program} {w : World} {ops : Array Oper} {rest : List Oper} {o : Oper} {a : Act} {Q : Exit → Act → World → Prop} {base : Nat} {α : Type} [Dat α] (hgd : o.guard = none) (s xo : Operand) {t e : TypeId} {bytes : Nat} (hT : ElemT P α t e bytes) (hsz : Dat.size α = 1)
    (ho : o.op = .call { callee := .builtin .append, args := #[s, xo], argTypes := #[t, t] })
    {v : Value} {n : Nat} {xs : List Value} (hs : a.eval s = v) (hown : w.ownsRow base e 1 v n xs) {u : Value} {g c : Nat} (hx : a.eval xo = .slice (some ⟨g, 0, none⟩) 1 c) (hat : w.cell? ⟨g, 0, none⟩ = some u) (hu : u.oneCell' = true)
    (hlen : (n + 1) * bytes ≤ 140737488355328) (hmax : n + 1 ≤ 9223372036854775807) (hbase : base ≤ w.heap.size)
    (h : ∀ v' w', w'.ownsRow base e 1 v' (n + 1) (xs ++ [u]) → w.grownBy w' v.ownBlock → (v'.ownBlock = v.ownBlock ∨ v'.ownBlock = some w.heap.size) → wpList P ops Q rest (a.put o.dst v') w') : wpList P ops Q (o :: rest) a w :=
  wpList_plain hgd fun _ hK => wp_row1 s xo hT hsz ho hs hown hx hat hu hlen hmax hbase fun v' w' h2 h3 h4 => hK _ _ (h v' w' h2 h3 h4)

/-- k rows of a table are made. -/
def RowL (W : World) (rows : List (List Bool)) (m : Nat) (v : Value) (k : Nat) (bs : List Nat) (wr : World) : Prop :=
  k ≤ rows.length ∧ bs.length = k ∧ Below W.heap.size W wr ∧ wr.ownsRow W.heap.size 85 1 v k (bs.map fun b => rowSl b m) ∧
    (∀ (i b : Nat) (row : List Bool), bs[i]? = some b → rows[i]? = some row → Blk' wr b 4 (bcells row) ∧ row.length = m) ∧ (∀ b ∈ bs, b < wr.heap.size ∧ W.heap.size ≤ b ∧ v.ownBlock ≠ some b) ∧ bs.Nodup
theorem RowL.start (W : World) (rows : List (List Bool)) (m : Nat) : RowL W rows m (.slice none 0 0) 0 [] W :=
  ⟨Nat.zero_le _, rfl, Below.refl _ _, World.ownsRow_nil _ _ _ _, by simp, by simp, List.nodup_nil⟩
/-- One more row: R its block, of wm; then the append. -/
theorem RowL.next {W wo wm w' : World} {rows : List (List Bool)} {m k R : Nat} {v v' : Value} {row : List Bool} {bs : List Nat} (h : RowL W rows m v k bs wo) (hr : rows[k]? = some row) (hb : Below wo.heap.size wo wm) (hR : Blk' wm R 4 (bcells row)) (hRl : row.length = m) (hR0 : wo.heap.size ≤ R)
    (hrow : w'.ownsRow W.heap.size 85 1 v' (k + 1) ((bs.map fun b => rowSl b m) ++ [rowSl R m])) (hg : wm.grownBy w' v.ownBlock) (hat : v'.ownBlock = v.ownBlock ∨ v'.ownBlock = some wm.heap.size) : RowL W rows m v' (k + 1) (bs ++ [R]) w' := by
  obtain ⟨h1, h2, h3, h4, h5, h6, h7⟩ := h
  have hV : ∀ g, v.ownBlock = some g → W.heap.size ≤ g ∧ g < wo.heap.size := h4.lt
  have hsm := hb.size
  have hRlt := hR.lt
  have hown : ∀ b, (b ∈ bs ∨ b = R) → v'.ownBlock ≠ some b := fun b hbb e => by
    rcases hat with q | q
    · rw [q] at e
      rcases hbb with hbb | hbb
      · exact (h6 b hbb).2.2 e
      · have := (hV b e).2; omega
    · rw [q] at e
      injection e with e
      rcases hbb with hbb | hbb
      · have := (h6 b hbb).1; omega
      · omega
  have hkm : Kept (fun b => v.ownBlock = some b) wo w' := (Kept.of_below _ hb).grown hg (fun k hk => .inl hk)
  refine ⟨(List.getElem?_eq_some_iff.1 hr).1, by simp [h2], h3.trans (hkm.to_below (fun b hbb => (hV b hbb).1) h3.size), by rw [List.map_append]; exact hrow, fun i b row' hi hr' => ?_, fun b hbb => ?_, ?_⟩
  · rcases Nat.lt_or_ge i bs.length with hlt | hge
    · rw [List.getElem?_append_left hlt] at hi
      exact ⟨(h5 i b row' hi hr').1.kept hkm (h6 b (List.mem_of_getElem? hi)).2.2, (h5 i b row' hi hr').2⟩
    · rw [List.getElem?_append_right hge] at hi
      have e1 : i - bs.length = 0 := by
        have := (List.getElem?_eq_some_iff.1 hi).1
        simp at this; omega
      rw [e1] at hi
      simp at hi
      subst hi
      have e2 : i = k := by omega
      subst e2
      rw [hr] at hr'
      injection hr' with hr'
      subst hr'
      exact ⟨hR.grown hg (fun e => by have := (hV _ e.symm).2; omega), hRl⟩
  · rcases List.mem_append.1 hbb with hbb | hbb
    · exact ⟨Nat.lt_of_lt_of_le (h6 b hbb).1 hkm.size, (h6 b hbb).2.1, hown b (.inl hbb)⟩
    · simp at hbb
      subst hbb
      exact ⟨Nat.lt_of_lt_of_le hRlt hg.size, by have := h3.size; omega, hown _ (.inr rfl)⟩
  · rw [List.nodup_append]
    exact ⟨h7, by simp, fun a ha b hb' e => by simp at hb'; subst hb'; have := (h6 a ha).1; omega⟩
theorem RowL.done {W wo : World} {rows : List (List Bool)} {m n : Nat} {v : Value} (hn : 1 ≤ n) (hl : rows.length = n) {bs : List Nat} (h : RowL W rows m v n bs wo) : ∃ bf cf, v = .slice (some ⟨bf, 0, none⟩) n cf ∧ RowsM wo bf bs m n cf rows ∧ Below W.heap.size W wo ∧ (∀ b ∈ bf :: bs, W.heap.size ≤ b) := by
  obtain ⟨h1, h2, h3, h4, h5, h6, h7⟩ := h
  obtain ⟨_, k2⟩ := h4
  rcases k2 with ⟨_, k3⟩ | ⟨bf, cap, cur, rfl, k4, k5, k6, k7, k8, k9⟩
  · omega
  · have hcell : ∀ (i b : Nat), bs[i]? = some b → wo.cell? ⟨bf, i, none⟩ = some (rowSl b m) := fun i b hib => by
      rw [cell_of_row wo bf i cur 85 (0, 0) k5]
      have hl : i < bs.length := (List.getElem?_eq_some_iff.1 hib).1
      have h10 : (bs.map fun b => rowSl b m)[i]? = some (rowSl b m) := by simp [hib]
      rw [← k9, List.getElem?_take] at h10
      rw [if_pos (by omega)] at h10
      rw [← Array.getElem?_toList]
      exact h10
    refine ⟨bf, cap, rfl, ⟨hl, h2, hcell, h5, ?_, (Array.getElem?_eq_some_iff.1 k5).1, k6, by simpa [maxLen] using k7⟩, h3, fun b hb => ?_⟩
    · rw [List.nodup_cons]
      exact ⟨fun hm => (h6 bf hm).2.2 rfl, h7⟩
    · rcases List.mem_cons.1 hb with rfl | hb
      · exact k4
      · exact (h6 b hb).2.1
end Go.Proofs.YtecofoilghdedaaDoor

/- Rows of bools made one by one into a slice that was made whole: its memory. -/
namespace Go.Proofs.YtecofoilghdedaaDoor
open Go.RowKit
set_option linter.unusedVariables false

/-- Slices of rows: the first ones made, the others nil. -/
def scells (bs : List Nat) (m n : Nat) : Array Value := ((bs.map fun b => rowSl b m) ++ List.replicate (n - bs.length) (Value.slice none 0 0)).toArray
theorem scells_get {bs : List Nat} {m n i b : Nat} (h : bs[i]? = some b) : (scells bs m n)[i]? = some (rowSl b m) := by
  have hi := (List.getElem?_eq_some_iff.1 h).1
  unfold scells
  rw [List.getElem?_toArray, List.getElem?_append_left (by simpa using hi)]
  simp [h]
theorem scells_set {bs : List Nat} {m n b : Nat} (h : bs.length < n) : (scells bs m n).setIfInBounds bs.length (rowSl b m) = scells (bs ++ [b]) m n := by
  apply Array.ext'
  unfold scells
  simp only [Array.toList_setIfInBounds]
  apply List.ext_getElem?
  intro j
  rw [List.getElem?_set]
  by_cases e : bs.length = j
  · subst e
    rw [if_pos rfl, if_pos (by simp; omega), List.getElem?_append_left (by simp)]
    simp
  · rw [if_neg e]
    rcases Nat.lt_or_ge j bs.length with hj | hj
    · rw [List.getElem?_append_left (by simpa using hj), List.getElem?_append_left (by simp; omega)]
      rw [List.map_append, List.getElem?_append_left (by simpa using hj)]
    · rw [List.getElem?_append_right (by simpa using hj), List.getElem?_append_right (by simp; omega), List.getElem?_replicate, List.getElem?_replicate]
      simp only [List.length_map, List.length_append, List.length_cons, List.length_nil]
      by_cases hn : j < n
      · rw [if_pos (by omega), if_pos (by omega)]
      · rw [if_neg (by omega), if_neg (by omega)]
theorem scells_nil {bs : List Nat} {m n i : Nat} (h : bs.length ≤ i) (hi : i < n) : (scells bs m n)[i]? = some (.slice none 0 0) := by
  unfold scells
  rw [List.getElem?_toArray, List.getElem?_append_right (by simpa using h), List.getElem?_replicate, if_pos (by simp; omega)]
theorem mkRows (n : Nat) (hn : n ≤ 1000000) (W : World) : (Instr.makeSlice 108 (.int .i64 (n : Int)) (.int .i64 (n : Int))).run Tryd.prog W = .ok (.slice (some ⟨W.heap.size, 0, none⟩) n n) (W.alloc (.cells (scells [] 0 n) 85)) := by
  obtain ⟨i0, hi, hz0, hz1, hz2⟩ := info_parts infoBools
  have h := run_makeSlice (P := Tryd.prog) W 108 85 i0 (.slice none 0 0) Tryd.underlying108 hi hz0 .i64 .i64 (n : Int) (n : Int) (by omega) (Int.le_refl _) (by rw [hz1]; simp; omega) (by rw [hz2]; omega) (by omega)
  rw [h, hz1]
  simp only [Int.toNat_natCast]
  have e : madeCells (Value.slice none 0 0).cells (n * 1) = scells [] 0 n := by
    apply Array.ext'
    show (madeCells #[Value.slice none 0 0] (n * 1)).toList = _
    rw [toList_madeCells_one]
    simp [scells]
  rw [e]
theorem scells_any (m m' n : Nat) : scells [] m n = scells [] m' n := rfl

/-- The first rows are made. -/
structure RowP (w : World) (bf n m : Nat) (bs : List Nat) (f : List (List Bool)) : Prop where
  flen : f.length = bs.length
  le : bs.length ≤ n
  outer : Blk' w bf 85 (scells bs m n)
  rows : ∀ (i b : Nat) (row : List Bool), bs[i]? = some b → f[i]? = some row → Blk' w b 4 (bcells row) ∧ row.length = m
  lt : ∀ b ∈ bs, bf < b ∧ b < w.heap.size
  nodup : bs.Nodup
theorem RowP.start {w : World} {bf n : Nat} (m : Nat) (h : Blk' w bf 85 (scells [] 0 n)) : RowP w bf n m [] [] :=
  ⟨rfl, Nat.zero_le _, h, by simp, by simp, List.nodup_nil⟩
theorem RowP.next {w w' : World} {bf n m R : Nat} {bs : List Nat} {f : List (List Bool)} {row : List Bool} (h : RowP w bf n m bs f) (hlt : bs.length < n) (k : Kept (fun b => b = bf) w w') (hO : Blk' w' bf 85 (scells (bs ++ [R]) m n)) (hR : Blk' w' R 4 (bcells row)) (hl : row.length = m) (hR0 : w.heap.size ≤ R) :
    RowP w' bf n m (bs ++ [R]) (f ++ [row]) := by
  have hbf := h.outer.lt
  refine ⟨by simp [h.flen], by simp; omega, hO, fun i b row' hi hr => ?_, fun b hbm => ?_, ?_⟩
  · rcases Nat.lt_or_ge i bs.length with hlt2 | hge
    · rw [List.getElem?_append_left hlt2] at hi
      rw [List.getElem?_append_left (by rw [h.flen]; exact hlt2)] at hr
      obtain ⟨h1, h2⟩ := h.rows i b row' hi hr
      have hm := h.lt b (List.mem_of_getElem? hi)
      exact ⟨h1.kept k (by omega), h2⟩
    · have e1 : i = bs.length := by have := (List.getElem?_eq_some_iff.1 hi).1; simp at this; omega
      subst e1
      rw [List.getElem?_append_right (Nat.le_refl _)] at hi
      rw [List.getElem?_append_right (by rw [h.flen]; exact Nat.le_refl _), h.flen] at hr
      simp at hi hr
      subst hi; subst hr
      exact ⟨hR, hl⟩
  · have hs := k.size
    rcases List.mem_append.1 hbm with hbm | hbm
    · have := h.lt b hbm
      exact ⟨this.1, by omega⟩
    · simp at hbm
      subst hbm
      exact ⟨by omega, hR.lt⟩
  · rw [List.nodup_append]
    exact ⟨h.nodup, by simp, fun a ha b hb' e => by simp at hb'; subst hb'; have := h.lt a ha; omega⟩
theorem RowP.done {w : World} {bf n m : Nat} {bs : List Nat} {f : List (List Bool)} (h : RowP w bf n m bs f) (hn : bs.length = n) (hm : n ≤ 9223372036854775807) : RowsM w bf bs m n n f :=
  ⟨by rw [h.flen, hn], hn, fun i b hib => (h.outer.cell i).trans (scells_get hib), h.rows, by
    simp only [List.nodup_cons]
    exact ⟨fun hm => by have := h.lt bf hm; omega, h.nodup⟩, h.outer.lt, Nat.le_refl _, hm⟩
end Go.Proofs.YtecofoilghdedaaDoor

/- The plain law of FirstFollows: where the sets are closed under the rules, every node of a tree of Start has its next terminal in Follow and its first one in Predict. No program is named here. -/
namespace Go.Proofs.YtecofoilghdedaaDoor
open Go.RowKit
set_option linter.unusedVariables false

/-- Follow sets that are closed under the rules of the nonterminals that are reached. -/
structure ClosedFol (g : Gram) (m : Nat) (e : List Bool) (f : List (List Bool)) (inn : List Bool) (fol : List (List Bool)) : Prop where
  len : fol.length = g.nons.toNat
  rows : ∀ (n : Nat) (row : List Bool), fol[n]? = some row → row.length = m + 1
  startIn : inn.getD g.start.toNat false = true
  start : (fol.getD g.start.toNat [])[m]? = some true
  reach : ∀ q ∈ g.rules, inn.getD q.left.toNat false = true → ∀ x ∈ q.right, x.term = false → inn.getD x.n.toNat false = true
  row : ∀ q ∈ g.rules, inn.getD q.left.toNat false = true → ∀ (i : Nat) (x : Sym), q.right[i]? = some x → x.term = false → ∀ j : Nat, (ofFrom e f (List.replicate m false) (q.right.drop (i + 1))).1[j]? = some true → (fol.getD x.n.toNat [])[j]? = some true
  pass : ∀ q ∈ g.rules, inn.getD q.left.toNat false = true → ∀ (i : Nat) (x : Sym), q.right[i]? = some x → x.term = false → (ofFrom e f (List.replicate m false) (q.right.drop (i + 1))).2 = true → ∀ j : Nat, (fol.getD q.left.toNat [])[j]? = some true → (fol.getD x.n.toNat [])[j]? = some true
/-- A rule's row of Predict. -/
def predRow (m : Nat) (e : List Bool) (f : List (List Bool)) (fol : List (List Bool)) (q : Rule) : List Bool :=
  if (ofFrom e f (List.replicate m false) q.right).2 then orRow ((ofFrom e f (List.replicate m false) q.right).1 ++ [false]) (fol.getD q.left.toNat []) else (ofFrom e f (List.replicate m false) q.right).1 ++ [false]
theorem predRow_len (m : Nat) (e : List Bool) (f : List (List Bool)) (fol : List (List Bool)) (q : Rule) : (predRow m e f fol q).length = m + 1 := by
  unfold predRow
  split <;> simp [orRow_len, ofFrom_len]
mutual
/-- What the law's closure tests of a node, and of those below it. -/
def goodP (g : Gram) (m : Nat) (fol pre : List (List Bool)) (w : List Int) : Tree → Nat → Prop
  | ⟨r, _, ks⟩, at_ => r < 0 ∨ ((∃ (q : Rule) (a b : List Bool) (ce ca : Int), g.rules[r.toNat]? = some q ∧ fol[q.left.toNat]? = some a ∧ pre[r.toNat]? = some b ∧ w[at_ + (yields ks).length]? = some ce ∧ w[at_]? = some ca ∧ 0 ≤ ce ∧ 0 ≤ ca ∧ a[ce.toNat]? = some true ∧ b[ca.toNat]? = some true ∧ a.length = m + 1 ∧ b.length = m + 1) ∧ goodPs g m fol pre w ks at_)
def goodPs (g : Gram) (m : Nat) (fol pre : List (List Bool)) (w : List Int) : List Tree → Nat → Prop
  | [], _ => True
  | k :: ks, at_ => goodP g m fol pre w k at_ ∧ goodPs g m fol pre w ks (at_ + (yieldT k).length)
end

mutual
theorem good_law {g : Gram} {m : Nat} {e inn : List Bool} {f fol pre : List (List Bool)} {w : List Int} (hc : ClosedS g m e f) (hok : ∀ q ∈ g.rules, ∀ s ∈ q.right, SymIn m g s) (hlo : ∀ q ∈ g.rules, 0 ≤ q.left ∧ q.left < g.nons) (hf : ClosedFol g m e f inn fol)
    (hp : ∀ (i : Nat) (q : Rule), g.rules[i]? = some q → pre[i]? = some (predRow m e f fol q)) :
    ∀ (t : Tree) (s : Sym) (at_ : Nat) (c : Int) (rest : List Int), vt g t s → (s.term = false → inn.getD s.n.toNat false = true ∧ (fol.getD s.n.toNat [])[c.toNat]? = some true) → w.drop at_ = yieldT t ++ c :: rest → 0 ≤ c → goodP g m fol pre w t at_
  | ⟨r, t, ks⟩, s, at_, c, rest, h, hs, hw, hc0 => by
    unfold goodP
    unfold vt at h
    split at h
    · exact .inl (by omega)
    · rename_i hst
      have hst : s.term = false := by simpa using hst
      obtain ⟨hin, hfc⟩ := hs hst
      obtain ⟨_, hr, q, hq, hql, hks⟩ := h
      have hm := List.mem_of_getElem? hq
      have hy : yieldT ⟨r, t, ks⟩ = yields ks := by unfold yieldT; rw [if_neg (by omega)]
      rw [hy] at hw
      have hl := hlo q hm
      have hlt : q.left.toNat < fol.length := by rw [hf.len]; omega
      obtain ⟨a, ha⟩ : ∃ a, fol[q.left.toNat]? = some a := ⟨_, List.getElem?_eq_getElem hlt⟩
      have hga : fol.getD q.left.toNat [] = a := by rw [List.getD_eq_getElem?_getD, ha]; rfl
      have hal := hf.rows _ _ ha
      rw [← hql, hga] at hfc
      have hfk := first_kids hc hok ks q.right (List.replicate m false) (by simp) (hok q hm) hks
      have hce : w[at_ + (yields ks).length]? = some c := by
        have h1 : (w.drop at_)[(yields ks).length]? = some c := by rw [hw]; simp
        simpa using h1
      refine .inr ⟨?_, goods_law hc hok hlo hf hp q hm (by rw [hql]; exact hin) 0 ks at_ c rest (by simpa using hks) (by rw [hga]; exact hfc) hw hc0⟩
      cases hyk : yields ks with
      | nil =>
        rw [hyk] at hw hce
        have hem := hfk.1 hyk
        have hca : w[at_]? = some c := by simpa using hce
        refine ⟨q, a, predRow m e f fol q, c, c, hq, ha, hp _ _ hq, by simpa using hce, hca, hc0, hc0, hfc, ?_, hal, predRow_len _ _ _ _ _⟩
        unfold predRow
        rw [if_pos hem, hga]
        exact orRow_right _ _ _ (by simp [ofFrom_len, hal]) hfc
      | cons c' w' =>
        obtain ⟨h1, h2, h3⟩ := hfk.2 _ _ hyk
        rw [hyk] at hw hce
        have hca : w[at_]? = some c' := by
          have h4 : (w.drop at_)[0]? = some c' := by rw [hw]; simp
          simpa using h4
        refine ⟨q, a, predRow m e f fol q, c, c', hq, ha, hp _ _ hq, hce, hca, hc0, h1, hfc, ?_, hal, predRow_len _ _ _ _ _⟩
        have h4 : ((ofFrom e f (List.replicate m false) q.right).1 ++ [false])[c'.toNat]? = some true := by
          rw [List.getElem?_append_left (List.getElem?_eq_some_iff.1 h3).1]; exact h3
        unfold predRow
        split
        · exact orRow_left _ _ _ h4
        · exact h4
theorem goods_law {g : Gram} {m : Nat} {e inn : List Bool} {f fol pre : List (List Bool)} {w : List Int} (hc : ClosedS g m e f) (hok : ∀ q ∈ g.rules, ∀ s ∈ q.right, SymIn m g s) (hlo : ∀ q ∈ g.rules, 0 ≤ q.left ∧ q.left < g.nons) (hf : ClosedFol g m e f inn fol)
    (hp : ∀ (i : Nat) (q : Rule), g.rules[i]? = some q → pre[i]? = some (predRow m e f fol q)) (q : Rule) (hm : q ∈ g.rules) (hin : inn.getD q.left.toNat false = true) :
    ∀ (i : Nat) (ks : List Tree) (at_ : Nat) (c : Int) (rest : List Int), vts g ks (q.right.drop i) → (fol.getD q.left.toNat [])[c.toNat]? = some true → w.drop at_ = yields ks ++ c :: rest → 0 ≤ c → goodPs g m fol pre w ks at_
  | _, [], at_, c, rest, _, _, _, _ => by simp [goodPs]
  | i, k :: ks, at_, c, rest, h, hfc, hw, hc0 => by
    unfold goodPs
    rcases Nat.lt_or_ge i q.right.length with hlt | hge
    · obtain ⟨x, hx⟩ : ∃ x, q.right[i]? = some x := ⟨_, List.getElem?_eq_getElem hlt⟩
      have hd : q.right.drop i = x :: q.right.drop (i + 1) := by
        obtain ⟨hlt, rfl⟩ := List.getElem?_eq_some_iff.1 hx
        exact List.drop_eq_getElem_cons hlt
      rw [hd] at h
      unfold vts at h
      have hw2 : w.drop at_ = yieldT k ++ (yields ks ++ c :: rest) := by rw [hw, yields, List.append_assoc]
      have hw3 : w.drop (at_ + (yieldT k).length) = yields ks ++ c :: rest := by
        rw [← List.drop_drop, hw2]; simp
      have hfk := first_kids hc hok ks (q.right.drop (i + 1)) (List.replicate m false) (by simp) (fun s hs => hok q hm s (List.mem_of_mem_drop hs)) h.2
      refine ⟨?_, goods_law hc hok hlo hf hp q hm hin (i + 1) ks _ c rest h.2 hfc hw3 hc0⟩
      cases hyk : yields ks with
      | nil =>
        rw [hyk] at hw2
        exact good_law hc hok hlo hf hp k x at_ c rest h.1 (fun hxt => ⟨hf.reach q hm hin x (List.mem_of_getElem? hx) hxt, hf.pass q hm hin i x hx hxt (hfk.1 hyk) _ hfc⟩) hw2 hc0
      | cons c' w' =>
        obtain ⟨h1, h2, h3⟩ := hfk.2 _ _ hyk
        rw [hyk] at hw2
        exact good_law hc hok hlo hf hp k x at_ c' (w' ++ c :: rest) h.1 (fun hxt => ⟨hf.reach q hm hin x (List.mem_of_getElem? hx) hxt, hf.row q hm hin i x hx hxt _ h3⟩) (by rw [hw2]; rfl) h1
    · rw [List.drop_of_length_le hge] at h
      simp [vts] at h
end
end Go.Proofs.YtecofoilghdedaaDoor

/- The reference's closure of a relation: as many rounds as there are places reach every place that a way leads to. No program is named here. -/
namespace Go.Proofs.YtecofoilghdedaaDoor
open Go.RowKit
set_option linter.unusedVariables false

def Gt (m : List (List Bool)) (i j : Nat) : Prop := (m.getD i [])[j]? = some true
/-- Row i takes row k, if k stands in it. -/
def warCell (m : List (List Bool)) (i k : Nat) : List (List Bool) :=
  if (m.getD i []).getD k false then m.set i (orRow (m.getD i []) (m.getD k [])) else m
def warRow (m : List (List Bool)) (i : Nat) (ks : List Nat) : List (List Bool) := ks.foldl (fun m k => warCell m i k) m
def warRound (n : Nat) (m : List (List Bool)) (is : List Nat) : List (List Bool) := is.foldl (fun m i => warRow m i (List.range n)) m
def warIter (n : Nat) : Nat → List (List Bool) → List (List Bool)
  | 0, m => m
  | k + 1, m => warRound n (warIter n k m) (List.range n)
/-- A way of steps of m. -/
inductive Wk (m : List (List Bool)) (i : Nat) : Nat → Prop where
  | refl : Wk m i i
  | snoc (k j : Nat) (h : Wk m i k) (hs : Gt m k j) : Wk m i j
theorem Wk.trans {m : List (List Bool)} {i k j : Nat} (h : Wk m i k) (g : Wk m k j) : Wk m i j := by
  induction g with
  | refl => exact h
  | snoc a b _ hs ih => exact .snoc a b ih hs
theorem Wk.one {m : List (List Bool)} {i j : Nat} (h : Gt m i j) : Wk m i j := .snoc i j .refl h

structure WarS (n : Nat) (m : List (List Bool)) : Prop where
  len : m.length = n
  row : ∀ (i : Nat) (r : List Bool), m[i]? = some r → r.length = n
theorem WarS.get {n : Nat} {m : List (List Bool)} (h : WarS n m) {i : Nat} (hi : i < n) : ∃ r, m[i]? = some r ∧ m.getD i [] = r ∧ r.length = n := by
  obtain ⟨r, hr⟩ := get_some (show i < m.length by rw [h.len]; exact hi)
  exact ⟨r, hr, by rw [List.getD_eq_getElem?_getD, hr]; rfl, h.row i r hr⟩
/-- What m0's ways allow, and what is kept. -/
structure WarI (n : Nat) (m0 m : List (List Bool)) : Prop where
  shape : WarS n m
  mono : ∀ i j : Nat, Gt m0 i j → Gt m i j
  sound : ∀ i j : Nat, Gt m i j → Wk m0 i j
theorem warSet_get {n : Nat} {m : List (List Bool)} (h : WarS n m) {i k : Nat} (hi : i < n) (hk : k < n) (a b : Nat) : Gt (m.set i (orRow (m.getD i []) (m.getD k []))) a b ↔ (Gt m a b ∨ (a = i ∧ Gt m k b)) := by
  obtain ⟨r, h1, h2, h3⟩ := h.get hi
  obtain ⟨r', k1, k2, k3⟩ := h.get hk
  unfold Gt
  rw [List.getD_eq_getElem?_getD, List.getElem?_set]
  by_cases e : i = a
  · subst e
    rw [if_pos rfl, if_pos (by rw [h.len]; exact hi), h2, k2]
    simp only [Option.getD_some]
    constructor
    · intro hx
      rcases orRow_or _ _ _ hx with hx | hx
      · exact .inl hx
      · exact .inr ⟨by first | rfl | trivial, hx⟩
    · rintro (hx | ⟨_, hx⟩)
      · exact orRow_left _ _ _ hx
      · exact orRow_right _ _ _ (by omega) hx
  · rw [if_neg e, ← List.getD_eq_getElem?_getD]
    constructor
    · exact fun hx => .inl hx
    · rintro (hx | ⟨hx, _⟩)
      · exact hx
      · exact absurd hx.symm e
theorem gt_getD {m : List (List Bool)} {i k : Nat} : (m.getD i []).getD k false = true ↔ Gt m i k := by
  unfold Gt
  rw [List.getD_eq_getElem?_getD]
  cases (m.getD i [])[k]? <;> simp
theorem WarS.set {n : Nat} {m : List (List Bool)} (h : WarS n m) {i : Nat} {r : List Bool} (hr : r.length = n) : WarS n (m.set i r) :=
  ⟨by rw [List.length_set, h.len], fun j x hx => by
    rw [List.getElem?_set] at hx
    split at hx
    · split at hx
      · simp at hx; rw [← hx]; exact hr
      · simp at hx
    · exact h.row j x hx⟩
theorem WarI.cell {n : Nat} {m0 m : List (List Bool)} (h : WarI n m0 m) {i k : Nat} (hi : i < n) (hk : k < n) : WarI n m0 (warCell m i k) ∧ (∀ a b, Gt m a b → Gt (warCell m i k) a b) ∧ (∀ b, Gt m i k → Gt m k b → Gt (warCell m i k) i b) := by
  unfold warCell
  split
  · rename_i hc
    rw [gt_getD] at hc
    obtain ⟨r, h1, h2, h3⟩ := h.shape.get hi
    refine ⟨⟨h.shape.set (by rw [orRow_len, h2]; exact h3), fun a b hab => (warSet_get h.shape hi hk a b).2 (.inl (h.mono a b hab)), fun a b hab => ?_⟩, fun a b hab => (warSet_get h.shape hi hk a b).2 (.inl hab), fun b _ hb => (warSet_get h.shape hi hk i b).2 (.inr ⟨rfl, hb⟩)⟩
    rcases (warSet_get h.shape hi hk a b).1 hab with h4 | ⟨rfl, h4⟩
    · exact h.sound a b h4
    · exact (h.sound _ _ hc).trans (h.sound _ _ h4)
  · rename_i hc
    rw [gt_getD] at hc
    exact ⟨h, fun _ _ h => h, fun b hb => absurd hb hc⟩
theorem WarI.row {n : Nat} {m0 : List (List Bool)} {i : Nat} (hi : i < n) : ∀ (ks : List Nat) (m : List (List Bool)), WarI n m0 m → (∀ k ∈ ks, k < n) → WarI n m0 (warRow m i ks) ∧ (∀ a b, Gt m a b → Gt (warRow m i ks) a b) ∧ (∀ k ∈ ks, ∀ b, Gt m i k → Gt m0 k b → Gt (warRow m i ks) i b)
  | [], m, h, _ => ⟨h, fun _ _ h => h, by simp⟩
  | k :: ks, m, h, hk => by
    obtain ⟨c1, c2, c3⟩ := h.cell hi (hk k (by simp))
    obtain ⟨i1, i2, i3⟩ := WarI.row hi ks (warCell m i k) c1 (fun x hx => hk x (by simp [hx]))
    refine ⟨i1, fun a b hab => i2 a b (c2 a b hab), fun x hx b hab hb => ?_⟩
    rcases List.mem_cons.1 hx with rfl | hx
    · exact i2 _ _ (c3 b hab (h.mono _ _ hb))
    · exact i3 x hx b (c2 _ _ hab) hb
theorem WarI.round {n : Nat} {m0 : List (List Bool)} : ∀ (is : List Nat) (m : List (List Bool)), WarI n m0 m → (∀ i ∈ is, i < n) → WarI n m0 (warRound n m is) ∧ (∀ a b, Gt m a b → Gt (warRound n m is) a b) ∧ (∀ i ∈ is, ∀ k, k < n → ∀ b, Gt m i k → Gt m0 k b → Gt (warRound n m is) i b)
  | [], m, h, _ => ⟨h, fun _ _ h => h, by simp⟩
  | i :: is, m, h, hi => by
    obtain ⟨c1, c2, c3⟩ := WarI.row (hi i (by simp)) (List.range n) m h (fun k hk => List.mem_range.1 hk)
    obtain ⟨i1, i2, i3⟩ := WarI.round is (warRow m i (List.range n)) c1 (fun x hx => hi x (by simp [hx]))
    refine ⟨i1, fun a b hab => i2 a b (c2 a b hab), fun x hx k hk b hab hb => ?_⟩
    rcases List.mem_cons.1 hx with rfl | hx
    · exact i2 _ _ (c3 k (List.mem_range.2 hk) b hab hb)
    · exact i3 x hx k hk b (c2 _ _ hab) hb
theorem true_count : ∀ (a b : List Bool), a.length = b.length → (∀ j : Nat, a[j]? = some true → b[j]? = some true) → a.count true ≤ b.count true ∧ ((∃ j : Nat, b[j]? = some true ∧ ¬ a[j]? = some true) → a.count true < b.count true)
  | [], [], _, _ => by simp
  | [], _ :: _, h, _ => by simp at h
  | _ :: _, [], h, _ => by simp at h
  | x :: a, y :: b, h, hm => by
    obtain ⟨i1, i2⟩ := true_count a b (by simpa using h) (fun j hj => by have := hm (j + 1) (by simpa using hj); simpa using this)
    have h0 := hm 0
    simp only [List.count_cons]
    cases x
    · cases y
      · refine ⟨by simpa using i1, fun ⟨j, hj, hn⟩ => ?_⟩
        cases j with
        | zero => simp at hj
        | succ j => have := i2 ⟨j, by simpa using hj, by simpa using hn⟩; simpa using this
      · refine ⟨by simp; omega, fun _ => by simp; omega⟩
    · simp at h0
      subst h0
      refine ⟨by simpa using i1, fun ⟨j, hj, hn⟩ => ?_⟩
      cases j with
      | zero => simp at hn
      | succ j => have := i2 ⟨j, by simpa using hj, by simpa using hn⟩; simpa using this
theorem war_iter {n : Nat} {m0 : List (List Bool)} (h : WarS n m0) (hd : ∀ i, i < n → Gt m0 i i) : ∀ k, WarI n m0 (warIter n k m0) ∧ ∀ i, i < n → (∀ j, Wk m0 i j → Gt (warIter n k m0) i j) ∨ k + 1 ≤ ((warIter n k m0).getD i []).count true
  | 0 => by
    refine ⟨⟨h, fun _ _ h => h, fun _ _ h => Wk.one h⟩, fun i hi => .inr ?_⟩
    have h1 : Gt m0 i i := hd i hi
    have := List.count_pos_iff.2 (List.mem_of_getElem? h1)
    show 0 + 1 ≤ (m0.getD i []).count true
    omega
  | k + 1 => by
    obtain ⟨h1, h2⟩ := war_iter h hd k
    obtain ⟨r1, r2, r3⟩ := WarI.round (List.range n) (warIter n k m0) h1 (fun i hi => List.mem_range.1 hi)
    refine ⟨r1, fun i hi => ?_⟩
    rcases h2 i hi with h3 | h3
    · exact .inl fun j hj => r2 _ _ (h3 j hj)
    · by_cases hc : ∀ a b, Gt (warIter n k m0) i a → Gt m0 a b → Gt (warIter n k m0) i b
      · refine .inl fun j hj => r2 _ _ ?_
        induction hj with
        | refl => exact h1.mono _ _ (hd i hi)
        | snoc a b _ hs ih => exact hc a b ih hs
      · refine .inr ?_
        have ⟨a, b, ha, hb, hn⟩ : ∃ a b, Gt (warIter n k m0) i a ∧ Gt m0 a b ∧ ¬ Gt (warIter n k m0) i b := by
          false_or_by_contra
          rename_i hx
          exact hc fun a b ha hb => by
            false_or_by_contra
            rename_i hy
            exact hx ⟨a, b, ha, hb, hy⟩
        have han : a < n := by
          obtain ⟨r, g1, g2, g3⟩ := h1.shape.get hi
          unfold Gt at ha
          rw [g2] at ha
          have := (List.getElem?_eq_some_iff.1 ha).1
          omega
        have hnew := r3 i (List.mem_range.2 hi) a han b ha hb
        obtain ⟨r, g1, g2, g3⟩ := h1.shape.get hi
        obtain ⟨r', k1, k2, k3⟩ := r1.shape.get hi
        have hlt := (true_count r r' (by omega) (fun j hj => by have := r2 i j (by unfold Gt; rw [g2]; exact hj); unfold Gt at this; rw [k2] at this; exact this)).2 ⟨b, by unfold Gt at hnew; rw [k2] at hnew; exact hnew, by unfold Gt at hn; rw [g2] at hn; exact hn⟩
        rw [g2] at h3
        show k + 1 + 1 ≤ ((warRound n (warIter n k m0) (List.range n)).getD i []).count true
        rw [k2]
        omega
/-- As many rounds as there are places: all ways. -/
theorem war_end {n : Nat} {m0 : List (List Bool)} (h : WarS n m0) (hd : ∀ i, i < n → Gt m0 i i) : WarS n (warIter n n m0) ∧ ∀ i, i < n → ∀ j, Gt (warIter n n m0) i j ↔ Wk m0 i j := by
  obtain ⟨h1, h2⟩ := war_iter h hd n
  refine ⟨h1.shape, fun i hi j => ⟨h1.sound i j, fun hj => ?_⟩⟩
  rcases h2 i hi with h3 | h3
  · exact h3 j hj
  · obtain ⟨r, g1, g2, g3⟩ := h1.shape.get hi
    rw [g2] at h3
    have := List.count_le_length (a := true) (l := r)
    omega
end Go.Proofs.YtecofoilghdedaaDoor

/- The plain law of cycle.closure: three nested loops close a relation. -/
namespace Go.Proofs.YtecofoilghdedaaDoor
open Go.RowKit
set_option linter.unusedVariables false

inductive Plus (E : Nat → Nat → Prop) (a : Nat) : Nat → Prop where
  | one (b : Nat) (h : E a b) : Plus E a b
  | snoc (b c : Nat) (h : Plus E a b) (hs : E b c) : Plus E a c
theorem Plus.trans {E : Nat → Nat → Prop} {a b c : Nat} (h : Plus E a b) (k : Plus E b c) : Plus E a c := by
  induction k with
  | one c hs => exact .snoc b c h hs
  | snoc x y _ hs ih => exact .snoc x y ih hs
/-- From a to b with only places below k between. -/
def ViaLt (E : Nat → Nat → Prop) : Nat → Nat → Nat → Prop
  | 0, a, b => E a b
  | k + 1, a, b => ViaLt E k a b ∨ (ViaLt E k a k ∧ ViaLt E k k b)
theorem ViaLt.plus {E : Nat → Nat → Prop} : ∀ (k a b : Nat), ViaLt E k a b → Plus E a b
  | 0, a, b, h => .one b h
  | k + 1, a, b, h => by
    rcases h with h | ⟨h1, h2⟩
    · exact ViaLt.plus k a b h
    · exact (ViaLt.plus k a k h1).trans (ViaLt.plus k k b h2)
theorem ViaLt.mono {E : Nat → Nat → Prop} {a b : Nat} : ∀ (k : Nat), E a b → ViaLt E k a b
  | 0, h => h
  | k + 1, h => .inl (ViaLt.mono k h)
theorem ViaLt.trans {E : Nat → Nat → Prop} : ∀ (k a b c : Nat), b < k → ViaLt E k a b → ViaLt E k b c → ViaLt E k a c
  | 0, a, b, c, hb, _, _ => by omega
  | k + 1, a, b, c, hb, h1, h2 => by
    by_cases e : b = k
    · subst e
      have g1 : ViaLt E b a b := by
        rcases h1 with h | ⟨h, _⟩ <;> exact h
      have g2 : ViaLt E b b c := by
        rcases h2 with h | ⟨_, h⟩ <;> exact h
      exact .inr ⟨g1, g2⟩
    · have hk : b < k := by omega
      rcases h1 with h1 | ⟨h1, h3⟩
      · rcases h2 with h2 | ⟨h2, h4⟩
        · exact .inl (ViaLt.trans k a b c hk h1 h2)
        · exact .inr ⟨ViaLt.trans k a b k hk h1 h2, h4⟩
      · rcases h2 with h2 | ⟨h2, h4⟩
        · exact .inr ⟨h1, ViaLt.trans k k b c hk h3 h2⟩
        · exact .inr ⟨h1, h4⟩
theorem ViaLt.of_plus {E : Nat → Nat → Prop} {n a b : Nat} (hE : ∀ a b, E a b → a < n ∧ b < n) (h : Plus E a b) : ViaLt E n a b := by
  induction h with
  | one b h => exact ViaLt.mono n h
  | snoc b c _ hs ih => exact ViaLt.trans n a b c (hE b c hs).1 ih (ViaLt.mono n hs)

theorem WarS.ofRows {w : World} {bf : Nat} {bs : List Nat} {n cf : Nat} {f : List (List Bool)} (h : RowsM w bf bs n n cf f) : WarS n f :=
  ⟨h.flen, fun i r hr => by
    have hi := (List.getElem?_eq_some_iff.1 hr).1
    obtain ⟨b, hb⟩ := get_some (show i < bs.length by rw [h.blen, ← h.flen]; exact hi)
    exact (h.rows i b r hb hr).2⟩
theorem gtSet {n : Nat} {f : List (List Bool)} (h : WarS n f) {r c : Nat} (v : Bool) (hr : r < n) (hc : c < n) (a b : Nat) : Gt (f.set r ((f.getD r []).set c v)) a b ↔ (if a = r ∧ b = c then v = true else Gt f a b) := by
  obtain ⟨w, h1, h2, h3⟩ := h.get hr
  unfold Gt
  rw [List.getD_eq_getElem?_getD, List.getElem?_set]
  by_cases e : r = a
  · subst e
    rw [if_pos rfl, if_pos (by rw [h.len]; exact hr), h2]
    simp only [Option.getD_some]
    rw [List.getElem?_set]
    by_cases e2 : c = b
    · subst e2
      rw [if_pos rfl, if_pos (by omega), if_pos (by simp)]
      simp
    · rw [if_neg e2, if_neg (fun h => e2 h.2.symm)]
  · rw [if_neg e, if_neg (fun h => e h.1.symm), ← List.getD_eq_getElem?_getD]

/-- What holds at round k, row i, place j. -/
structure CloS (E : Nat → Nat → Prop) (n k i j : Nat) (f : List (List Bool)) : Prop where
  shape : WarS n f
  snd : ∀ a b, Gt f a b → Plus E a b
  all : ∀ a b, a < n → b < n → ViaLt E k a b → Gt f a b
  now : ∀ a b, a < n → b < n → (a < i ∨ (a = i ∧ b < j)) → ViaLt E k a k → ViaLt E k k b → Gt f a b
theorem CloS.step {E : Nat → Nat → Prop} {n k i j : Nat} {f : List (List Bool)} (h : CloS E n k i j f) (hk : k < n) (hi : i < n) (hj : j < n) {x y z : Bool} (hx : (f.getD i [])[j]? = some x) (hy : (f.getD i [])[k]? = some y) (hz : (f.getD k [])[j]? = some z) :
    CloS E n k i (j + 1) (f.set i ((f.getD i []).set j (x || (y && z)))) := by
  have hg := gtSet h.shape (x || (y && z)) hi hj
  have gx : x = true ↔ Gt f i j := by unfold Gt; rw [hx]; simp
  have gy : y = true ↔ Gt f i k := by unfold Gt; rw [hy]; simp
  have gz : z = true ↔ Gt f k j := by unfold Gt; rw [hz]; simp
  have hup : ∀ a b, Gt f a b → Gt (f.set i ((f.getD i []).set j (x || (y && z)))) a b := fun a b hab => by
    rw [hg]
    split
    · rename_i e
      rw [e.1, e.2] at hab
      rw [gx.2 hab]
      rfl
    · exact hab
  refine ⟨?_, fun a b hab => ?_, fun a b ha hb hv => hup a b (h.all a b ha hb hv), fun a b ha hb hp h1 h2 => ?_⟩
  · obtain ⟨r, h1, h2, h3⟩ := h.shape.get hi
    exact h.shape.set (by rw [List.length_set, h2]; exact h3)
  · rw [hg] at hab
    split at hab
    · rename_i e
      obtain ⟨rfl, rfl⟩ := e
      rw [Bool.or_eq_true, Bool.and_eq_true] at hab
      rcases hab with hab | ⟨h1, h2⟩
      · exact h.snd _ _ (gx.1 hab)
      · exact (h.snd _ _ (gy.1 h1)).trans (h.snd _ _ (gz.1 h2))
    · exact h.snd a b hab
  · by_cases e : a = i ∧ b = j
    · rw [hg, if_pos e]
      obtain ⟨rfl, rfl⟩ := e
      rw [gy.2 (h.all _ _ ha hk h1), gz.2 (h.all _ _ hk hb h2)]
      simp
    · exact hup a b (h.now a b ha hb (by omega) h1 h2)
theorem CloS.row {E : Nat → Nat → Prop} {n k i : Nat} {f : List (List Bool)} (h : CloS E n k i n f) : CloS E n k (i + 1) 0 f :=
  ⟨h.shape, h.snd, h.all, fun a b ha hb hp => h.now a b ha hb (by omega)⟩
theorem CloS.round {E : Nat → Nat → Prop} {n k : Nat} {f : List (List Bool)} (h : CloS E n k n 0 f) : CloS E n (k + 1) 0 0 f :=
  ⟨h.shape, h.snd, fun a b ha hb hv => by
    rcases hv with hv | ⟨h1, h2⟩
    · exact h.all a b ha hb hv
    · exact h.now a b ha hb (.inl ha) h1 h2, fun a b ha hb hp => by omega⟩
theorem CloS.start {E : Nat → Nat → Prop} {n : Nat} {f : List (List Bool)} (hs : WarS n f) (h : ∀ a b, Gt f a b ↔ E a b) : CloS E n 0 0 0 f :=
  ⟨hs, fun a b hab => .one b ((h a b).1 hab), fun a b _ _ hv => (h a b).2 hv, fun a b ha hb hp => by omega⟩
theorem CloS.done {E : Nat → Nat → Prop} {n : Nat} {f : List (List Bool)} (h : CloS E n n 0 0 f) (hE : ∀ a b, E a b → a < n ∧ b < n) (a b : Nat) (ha : a < n) (hb : b < n) : Gt f a b ↔ Plus E a b :=
  ⟨h.snd a b, fun hp => h.all a b ha hb (ViaLt.of_plus hE hp)⟩
end Go.Proofs.YtecofoilghdedaaDoor

/- Plain law of the normal form: which nonterminals become nothing, which lead to which, which pairs there are. No program is named here. -/
namespace Go.Proofs.YtecofoilghdedaaDoor
open Go.RowKit
set_option linter.unusedVariables false

/-- What becomes the empty word. -/
inductive NulP (ps : List Part) : Int → Prop where
  | mk (p : Part) (hp : p ∈ ps) (h : ∀ m ∈ p.right, NulP ps m) : NulP ps p.left
def nbAt (nb : List Bool) (m : Int) : Bool := nb.getD m.toNat false
def PartOk (N : Nat) (p : Part) : Prop := (0 ≤ p.left ∧ p.left < (N : Int)) ∧ p.right.length ≤ 2 ∧ ∀ m ∈ p.right, 0 ≤ m ∧ m < (N : Int)
def ClosedN (nb : List Bool) (p : Part) : Prop := p.right.all (nbAt nb) = true → nbAt nb p.left = true
structure NuS (N : Nat) (ps : List Part) (nb : List Bool) : Prop where
  len : nb.length = N
  snd : ∀ m : Int, 0 ≤ m → nbAt nb m = true → NulP ps m
/-- On the way of one pass: j parts are done. -/
structure NuI (N : Nat) (ps : List Part) (nb0 : List Bool) (j : Nat) (nb : List Bool) (b : Bool) : Prop where
  s : NuS N ps nb
  no : b = false → nb = nb0 ∧ ∀ p ∈ ps.take j, ClosedN nb0 p
  yes : b = true → nb.count false < nb0.count false
section
variable {N : Nat} {ps : List Part} {nb0 nb : List Bool} {j : Nat} {b : Bool} {p : Part}
theorem NuI.start (h : NuS N ps nb) : NuI N ps nb 0 nb false := ⟨h, fun _ => ⟨rfl, by simp⟩, fun h => by cases h⟩
theorem NuI.skip (h : NuI N ps nb0 j nb b) (hp : ps[j]? = some p) (hc : nbAt nb p.left = true ∨ p.right.all (nbAt nb) = false) : NuI N ps nb0 (j + 1) nb b := by
  refine ⟨h.s, fun hb => ⟨(h.no hb).1, fun q hq => ?_⟩, h.yes⟩
  rw [take_snoc hp, List.mem_append] at hq
  rcases hq with hq | hq
  · exact (h.no hb).2 q hq
  · simp at hq
    subst hq
    rw [← (h.no hb).1]
    intro ha
    rcases hc with hc | hc
    · exact hc
    · rw [hc] at ha; cases ha
theorem nb_in (hp : PartOk N p) (hl : nb.length = N) : ∃ x, nb[p.left.toNat]? = some x ∧ nbAt nb p.left = x := by
  obtain ⟨x, hx⟩ := get_some (show p.left.toNat < nb.length by have := hp.1; omega)
  exact ⟨x, hx, by unfold nbAt; rw [List.getD_eq_getElem?_getD, hx]; rfl⟩
theorem count_set_true : ∀ {l : List Bool} {i : Nat}, l[i]? = some false → (l.set i true).count false + 1 = l.count false
  | [], i, h => by simp at h
  | x :: l, 0, h => by
    simp at h
    subst h
    simp
  | x :: l, i + 1, h => by
    have := count_set_true (l := l) (i := i) (by simpa using h)
    simp only [List.set_cons_succ, List.count_cons]
    omega
theorem nbAt_set {i m : Int} (hi : 0 ≤ i ∧ i < (nb.length : Int)) (hm : 0 ≤ m) : nbAt (nb.set i.toNat true) m = (decide (m = i) || nbAt nb m) := by
  unfold nbAt
  rw [List.getD_eq_getElem?_getD, List.getElem?_set, List.getD_eq_getElem?_getD]
  by_cases e : i.toNat = m.toNat
  · have e2 : m = i := by omega
    subst e2
    rw [if_pos rfl, if_pos (by omega)]
    simp
  · rw [if_neg e]
    have e2 : ¬ m = i := fun h => e (by rw [h])
    simp [e2]
theorem NuI.set (h : NuI N ps nb0 j nb b) (hp : ps[j]? = some p) (hok : PartOk N p) (h0 : nbAt nb p.left = false) (ha : p.right.all (nbAt nb) = true) : NuI N ps nb0 (j + 1) (nb.set p.left.toNat true) true := by
  obtain ⟨x, hx, hx2⟩ := nb_in hok h.s.len
  rw [h0] at hx2
  subst hx2
  have hc := count_set_true hx
  refine ⟨⟨by simp [h.s.len], fun m hm hb => ?_⟩, fun hb => (by cases hb), fun _ => ?_⟩
  · rw [nbAt_set (by rw [h.s.len]; exact hok.1) hm] at hb
    simp only [Bool.or_eq_true, decide_eq_true_eq] at hb
    rcases hb with rfl | hb
    · refine .mk p (List.mem_of_getElem? hp) fun q hq => ?_
      rw [List.all_eq_true] at ha
      exact h.s.snd q (hok.2.2 q hq).1 (ha q hq)
    · exact h.s.snd m hm hb
  · cases b
    · rw [← (h.no rfl).1]; omega
    · have := h.yes rfl; omega
/-- The row of what becomes nothing. -/
def NulRow (N : Nat) (ps : List Part) (nb : List Bool) : Prop := nb.length = N ∧ ∀ m : Int, 0 ≤ m → (nbAt nb m = true ↔ NulP ps m)
theorem NulRow.of (h : NuI N ps nb0 ps.length nb false) (hok : ∀ p ∈ ps, PartOk N p) : NulRow N ps nb := by
  obtain ⟨e, hc⟩ := h.no rfl
  subst e
  refine ⟨h.s.len, fun m hm => ⟨h.s.snd m hm, fun hn => ?_⟩⟩
  clear hm
  induction hn with
  | mk p hp _ ih =>
    rw [List.take_length] at hc
    exact hc p hp (List.all_eq_true.2 fun q hq => ih q hq)
theorem NuS.start (N : Nat) (ps : List Part) : NuS N ps (List.replicate N false) := ⟨by simp, fun m _ h => by
  unfold nbAt at h
  rw [List.getD_eq_getElem?_getD, List.getElem?_replicate] at h
  split at h <;> simp at h⟩
end

/-- A part leads to the nonterminal at its place k. -/
def LeadAt (nul : Int → Prop) (p : Part) (k : Nat) (b : Int) : Prop := p.right[k]? = some b ∧ (p.right.length = 1 ∨ ∃ c, p.right[1 - k]? = some c ∧ nul c)
def LeadE (ps : List Part) (nul : Int → Prop) (a b : Nat) : Prop := ∃ p ∈ ps, p.left = (a : Int) ∧ ∃ k, LeadAt nul p k (b : Int)
def LeadR (N : Nat) (ps : List Part) (nul : Int → Prop) (a b : Nat) : Prop := (a = b ∧ a < N) ∨ LeadE ps nul a b
def Leads (N : Nat) (ps : List Part) (a b : Nat) : Prop := Plus (LeadR N ps (NulP ps)) a b
/-- On the way: j parts are done, and of the next one i places. -/
structure LdS (N : Nat) (ps : List Part) (nul : Int → Prop) (j i : Nat) (f : List (List Bool)) : Prop where
  shape : WarS N f
  is : ∀ a b, Gt f a b ↔ ((a = b ∧ a < N) ∨ LeadE (ps.take j) nul a b ∨ ∃ p, ps[j]? = some p ∧ p.left = (a : Int) ∧ ∃ k, k < i ∧ LeadAt nul p k (b : Int))
section
variable {N : Nat} {ps : List Part} {nul : Int → Prop} {j i : Nat} {f : List (List Bool)} {p : Part}
theorem LdS.start (hs : WarS N f) (h : ∀ a b, Gt f a b ↔ (a = b ∧ a < N)) : LdS N ps nul 0 0 f :=
  ⟨hs, fun a b => by rw [h a b]; exact ⟨fun h => .inl h, fun h => by
    rcases h with h | ⟨p, hp, _⟩ | ⟨p, _, _, k, hk, _⟩
    · exact h
    · simp at hp
    · omega⟩⟩
theorem LdS.skip (h : LdS N ps nul j i f) (hp : ps[j]? = some p) (hn : ∀ b : Nat, ¬ LeadAt nul p i (b : Int)) : LdS N ps nul j (i + 1) f := by
  refine ⟨h.shape, fun a b => (h.is a b).trans ⟨?_, ?_⟩⟩
  · rintro (h1 | h1 | ⟨q, hq, h2, k, hk, h3⟩)
    · exact .inl h1
    · exact .inr (.inl h1)
    · exact .inr (.inr ⟨q, hq, h2, k, by omega, h3⟩)
  · rintro (h1 | h1 | ⟨q, hq, h2, k, hk, h3⟩)
    · exact .inl h1
    · exact .inr (.inl h1)
    · refine .inr (.inr ⟨q, hq, h2, k, ?_, h3⟩)
      rw [hp] at hq
      injection hq with hq
      subst hq
      rcases Nat.lt_or_ge k i with hlt | hge
      · exact hlt
      · have e : k = i := by omega
        subst e
        exact absurd h3 (hn b)
theorem LdS.set {a0 b0 : Nat} (h : LdS N ps nul j i f) (hp : ps[j]? = some p) (ha : p.left = (a0 : Int)) (hl : LeadAt nul p i (b0 : Int)) (ha0 : a0 < N) (hb0 : b0 < N) : LdS N ps nul j (i + 1) (f.set a0 ((f.getD a0 []).set b0 true)) := by
  refine ⟨?_, fun a b => ?_⟩
  · obtain ⟨r, h1, h2, h3⟩ := h.shape.get ha0
    exact h.shape.set (by rw [List.length_set, h2]; exact h3)
  · rw [gtSet h.shape true ha0 hb0]
    constructor
    · intro hg
      split at hg
      · rename_i e
        obtain ⟨rfl, rfl⟩ := e
        exact .inr (.inr ⟨p, hp, ha, i, by omega, hl⟩)
      · rcases (h.is a b).1 hg with h1 | h1 | ⟨q, hq, h2, k, hk, h3⟩
        · exact .inl h1
        · exact .inr (.inl h1)
        · exact .inr (.inr ⟨q, hq, h2, k, by omega, h3⟩)
    · intro hg
      split
      · rfl
      · rename_i e
        refine (h.is a b).2 ?_
        rcases hg with h1 | h1 | ⟨q, hq, h2, k, hk, h3⟩
        · exact .inl h1
        · exact .inr (.inl h1)
        · refine .inr (.inr ⟨q, hq, h2, k, ?_, h3⟩)
          rw [hp] at hq
          injection hq with hq
          subst hq
          rcases Nat.lt_or_ge k i with hlt | hge
          · exact hlt
          · have ek : k = i := by omega
            subst ek
            exfalso
            apply e
            rw [ha] at h2
            have e1 := hl.1
            rw [h3.1] at e1
            injection e1 with e1
            exact ⟨by omega, by omega⟩
theorem LdS.next (h : LdS N ps nul j p.right.length f) (hp : ps[j]? = some p) : LdS N ps nul (j + 1) 0 f := by
  refine ⟨h.shape, fun a b => (h.is a b).trans ⟨?_, ?_⟩⟩
  · rintro (h1 | ⟨q, hq, h1⟩ | ⟨q, hq, h2, k, hk, h3⟩)
    · exact .inl h1
    · exact .inr (.inl ⟨q, by rw [take_snoc hp, List.mem_append]; exact .inl hq, h1⟩)
    · rw [hp] at hq
      injection hq with hq
      subst hq
      exact .inr (.inl ⟨p, by rw [take_snoc hp, List.mem_append]; simp, h2, k, h3⟩)
  · rintro (h1 | ⟨q, hq, h1, k, h2⟩ | ⟨q, hq, h2, k, hk, h3⟩)
    · exact .inl h1
    · rw [take_snoc hp, List.mem_append] at hq
      rcases hq with hq | hq
      · exact .inr (.inl ⟨q, hq, h1, k, h2⟩)
      · simp at hq
        subst hq
        exact .inr (.inr ⟨q, hp, h1, k, (List.getElem?_eq_some_iff.1 h2.1).1, h2⟩)
    · omega
theorem LdS.done (h : LdS N ps nul ps.length 0 f) : CloS (LeadR N ps nul) N 0 0 0 f := by
  refine CloS.start h.shape fun a b => (h.is a b).trans ?_
  rw [List.take_length]
  unfold LeadR
  constructor
  · rintro (h1 | h1 | ⟨_, _, _, k, hk, _⟩)
    · exact .inl h1
    · exact .inr h1
    · omega
  · rintro (h1 | h1)
    · exact .inl h1
    · exact .inr (.inl h1)
theorem leadR_in (hok : ∀ p ∈ ps, PartOk N p) : ∀ a b, LeadR N ps nul a b → a < N ∧ b < N := by
  rintro a b (⟨rfl, h⟩ | ⟨p, hp, h1, k, h2, _⟩)
  · exact ⟨h, h⟩
  · have h3 := hok p hp
    have h4 := h3.2.2 _ (List.mem_of_getElem? h2)
    have h5 := h3.1
    exact ⟨by omega, by omega⟩
/-- A row that does not lead to k is left as it is. -/
theorem CloS.pass {E : Nat → Nat → Prop} {n k i : Nat} {f : List (List Bool)} (h : CloS E n k i 0 f) (hk : k < n) (hi : i < n) (hg : ¬ Gt f i k) : CloS E n k (i + 1) 0 f :=
  ⟨h.shape, h.snd, h.all, fun a b ha hb hp h1 h2 => by
    by_cases e : a = i
    · subst e
      exact absurd (h.all a k ha hk h1) hg
    · exact h.now a b ha hb (by omega) h1 h2⟩
end

/-- The pairs to which a nonterminal leads. -/
def PairIn (N : Nat) (ps qs : List Part) (l a b : Int) : Prop := ∃ p ∈ qs, Leads N ps l.toNat p.left.toNat ∧ p.right = [a, b]
/-- On the way: all of the nonterminals below l, and of l the first j parts. -/
def PairX (N : Nat) (ps : List Part) (l j : Nat) (l' a b : Int) : Prop := (0 ≤ l' ∧ l' < (l : Int) ∧ PairIn N ps ps l' a b) ∨ (l' = (l : Int) ∧ PairIn N ps (ps.take j) l' a b)
section
variable {N : Nat} {ps : List Part} {l j : Nat} {l' a b : Int} {p : Part}
theorem PairX.zero : PairX N ps l 0 l' a b ↔ (0 ≤ l' ∧ l' < (l : Int) ∧ PairIn N ps ps l' a b) := by
  unfold PairX
  constructor
  · rintro (h | ⟨_, q, hq, _⟩)
    · exact h
    · simp at hq
  · exact .inl
theorem PairX.full : PairX N ps l ps.length l' a b ↔ (0 ≤ l' ∧ l' < ((l + 1 : Nat) : Int) ∧ PairIn N ps ps l' a b) := by
  unfold PairX
  rw [List.take_length]
  constructor
  · rintro (⟨h1, h2, h3⟩ | ⟨rfl, h⟩)
    · exact ⟨h1, by omega, h3⟩
    · exact ⟨by omega, by omega, h⟩
  · rintro ⟨h1, h2, h3⟩
    by_cases e : l' = (l : Int)
    · exact .inr ⟨e, h3⟩
    · exact .inl ⟨h1, by omega, h3⟩
theorem PairX.put (hp : ps[j]? = some p) {a0 b0 : Int} (hl : Leads N ps l p.left.toNat) (hr : p.right = [a0, b0]) : PairX N ps l (j + 1) l' a b ↔ (PairX N ps l j l' a b ∨ (l' = (l : Int) ∧ a = a0 ∧ b = b0)) := by
  unfold PairX
  rw [take_snoc hp]
  constructor
  · rintro (h | ⟨h1, q, hq, h2, h3⟩)
    · exact .inl (.inl h)
    · rw [List.mem_append] at hq
      rcases hq with hq | hq
      · exact .inl (.inr ⟨h1, q, hq, h2, h3⟩)
      · simp at hq
        subst hq
        rw [hr] at h3
        simp at h3
        exact .inr ⟨h1, h3.1.symm, h3.2.symm⟩
  · rintro ((h | ⟨h1, q, hq, h2⟩) | ⟨rfl, rfl, rfl⟩)
    · exact .inl h
    · exact .inr ⟨h1, q, by simp [hq], h2⟩
    · exact .inr ⟨rfl, p, by simp, by simpa using hl, hr⟩
theorem PairX.skip (hp : ps[j]? = some p) (hn : ¬ Leads N ps l p.left.toNat ∨ p.right.length ≠ 2) : PairX N ps l (j + 1) l' a b ↔ PairX N ps l j l' a b := by
  unfold PairX
  rw [take_snoc hp]
  constructor
  · rintro (h | ⟨h1, q, hq, h2, h3⟩)
    · exact .inl h
    · rw [List.mem_append] at hq
      rcases hq with hq | hq
      · exact .inr ⟨h1, q, hq, h2, h3⟩
      · simp at hq
        subst hq
        rcases hn with hn | hn
        · rw [h1] at h2
          exact absurd (by simpa using h2) hn
        · rw [h3] at hn
          exact absurd rfl hn
  · rintro (h | ⟨h1, q, hq, h2⟩)
    · exact .inl h
    · exact .inr ⟨h1, q, by simp [hq], h2⟩
end
end Go.Proofs.YtecofoilghdedaaDoor

/- Rows of bools appended one by one to a slice that the call itself grows. -/
namespace Go.Proofs.YtecofoilghdedaaDoor
open Go.RowKit
set_option linter.unusedVariables false

structure RowK (w : World) (B m : Nat) (v : Value) (bs : List Nat) (f : List (List Bool)) : Prop where
  row : w.ownsRow B 85 1 v bs.length (bs.map fun b => rowSl b m)
  flen : f.length = bs.length
  rows : ∀ (i b : Nat) (r : List Bool), bs[i]? = some b → f[i]? = some r → Blk' w b 4 (bcells r) ∧ r.length = m
  far : ∀ b ∈ bs, B ≤ b ∧ b < w.heap.size ∧ v.ownBlock ≠ some b
  nodup : bs.Nodup
section
variable {w w' wm : World} {B m : Nat} {v v' : Value} {bs : List Nat} {f : List (List Bool)}
theorem RowK.nil (w : World) (B m : Nat) : RowK w B m (.slice none 0 0) [] [] := ⟨World.ownsRow_nil _ _ _ _, rfl, by simp, by simp, List.nodup_nil⟩
theorem RowK.kept {X : Nat → Prop} (h : RowK w B m v bs f) (k : Kept X w w') (hx : ∀ b, X b → b < B) : RowK w' B m v bs f :=
  ⟨row_kept h.row k (fun b hb hX => by have := (h.row.lt b hb).1; have := hx b hX; omega), h.flen, fun i b r hb hr => ⟨(h.rows i b r hb hr).1.kept k (fun hX => by have := (h.far b (List.mem_of_getElem? hb)).1; have := hx b hX; omega), (h.rows i b r hb hr).2⟩,
    fun b hb => ⟨(h.far b hb).1, Nat.lt_of_lt_of_le (h.far b hb).2.1 k.size, (h.far b hb).2.2⟩, h.nodup⟩
/-- One more row: R its block, of wm; then the append. -/
theorem RowK.push {R : Nat} {r : List Bool} (h : RowK w B m v bs f) (hb : Below w.heap.size w wm) (hR : Blk' wm R 4 (bcells r)) (hRl : r.length = m) (hR0 : w.heap.size ≤ R) (hB : B ≤ w.heap.size)
    (hrow : w'.ownsRow B 85 1 v' (bs.length + 1) ((bs.map fun b => rowSl b m) ++ [rowSl R m])) (hg : wm.grownBy w' v.ownBlock) (hat : v'.ownBlock = v.ownBlock ∨ v'.ownBlock = some wm.heap.size) : RowK w' B m v' (bs ++ [R]) (f ++ [r]) := by
  have hV : ∀ g, v.ownBlock = some g → B ≤ g ∧ g < w.heap.size := h.row.lt
  have hsm := hb.size
  have hRlt := hR.lt
  have hown : ∀ b, (b ∈ bs ∨ b = R) → v'.ownBlock ≠ some b := fun b hbb e => by
    rcases hat with q | q
    · rw [q] at e
      rcases hbb with hbb | hbb
      · exact (h.far b hbb).2.2 e
      · have := (hV b e).2; omega
    · rw [q] at e
      injection e with e
      rcases hbb with hbb | hbb
      · have := (h.far b hbb).2.1; omega
      · omega
  have hkm : Kept (fun b => v.ownBlock = some b) w w' := (Kept.of_below _ hb).grown hg (fun k hk => .inl hk)
  refine ⟨by rw [List.map_append, List.length_append]; exact hrow, by simp [h.flen], fun i b row' hi hr' => ?_, fun b hbb => ?_, ?_⟩
  · rcases Nat.lt_or_ge i bs.length with hlt | hge
    · rw [List.getElem?_append_left hlt] at hi
      rw [List.getElem?_append_left (by rw [h.flen]; exact hlt)] at hr'
      exact ⟨(h.rows i b row' hi hr').1.kept hkm (h.far b (List.mem_of_getElem? hi)).2.2, (h.rows i b row' hi hr').2⟩
    · have e1 : i - bs.length = 0 := by
        rw [List.getElem?_append_right hge] at hi
        have := (List.getElem?_eq_some_iff.1 hi).1
        simp at this; omega
      rw [List.getElem?_append_right hge, e1] at hi
      rw [List.getElem?_append_right (by rw [h.flen]; exact hge), h.flen, e1] at hr'
      simp at hi hr'
      subst hi; subst hr'
      exact ⟨hR.grown hg (fun e => by have := (hV _ e.symm).2; omega), hRl⟩
  · rcases List.mem_append.1 hbb with hbb | hbb
    · exact ⟨(h.far b hbb).1, Nat.lt_of_lt_of_le (h.far b hbb).2.1 hkm.size, hown b (.inl hbb)⟩
    · simp at hbb
      subst hbb
      exact ⟨by omega, Nat.lt_of_lt_of_le hRlt hg.size, hown _ (.inr rfl)⟩
  · rw [List.nodup_append]
    exact ⟨h.nodup, by simp, fun a ha b hb' e => by simp at hb'; subst hb'; have := (h.far a ha).2.1; omega⟩
/-- A row is written. -/
theorem RowK.setRow {i bi : Nat} {row' : List Bool} (h : RowK w B m v bs f) (hi : bs[i]? = some bi) (k : Kept (fun b => b = bi) w w') (hb : Blk' w' bi 4 (bcells row')) (hl : row'.length = m) : RowK w' B m v bs (f.set i row') := by
  refine ⟨row_kept h.row k (fun b hb e => (h.far bi (List.mem_of_getElem? hi)).2.2 (by rw [hb, e])), by simp [h.flen], fun j b row hjb hjr => ?_, fun b hb => ⟨(h.far b hb).1, Nat.lt_of_lt_of_le (h.far b hb).2.1 k.size, (h.far b hb).2.2⟩, h.nodup⟩
  rw [List.getElem?_set] at hjr
  split at hjr
  · rename_i e
    subst e
    split at hjr
    · injection hjr with hjr
      subst hjr
      rw [hi] at hjb
      injection hjb with hjb
      subst hjb
      exact ⟨hb, hl⟩
    · cases hjr
  · rename_i e
    have hr := h.rows j b row hjb hjr
    refine ⟨hr.1.kept k (fun e' => ?_), hr.2⟩
    subst e'
    obtain ⟨q1, q2⟩ := List.getElem?_eq_some_iff.1 hi
    obtain ⟨q3, q4⟩ := List.getElem?_eq_some_iff.1 hjb
    exact e ((List.getElem_inj h.nodup).1 (q2.trans q4.symm))
theorem RowK.form (h : RowK w B m v bs f) (hn : 1 ≤ bs.length) : ∃ bf cf, v = .slice (some ⟨bf, 0, none⟩) bs.length cf ∧ RowsM w bf bs m bs.length cf f ∧ B ≤ bf := by
  obtain ⟨k1, k2⟩ := h.row
  rcases k2 with ⟨_, k3⟩ | ⟨bf, cap, cur, rfl, k4, k5, k6, k7, k8, k9⟩
  · omega
  · have hcell : ∀ (i b : Nat), bs[i]? = some b → w.cell? ⟨bf, i, none⟩ = some (rowSl b m) := fun i b hib => by
      rw [cell_of_row w bf i cur 85 (0, 0) k5]
      have hl : i < bs.length := (List.getElem?_eq_some_iff.1 hib).1
      have h10 : (bs.map fun b => rowSl b m)[i]? = some (rowSl b m) := by simp [hib]
      rw [← k9, List.getElem?_take] at h10
      rw [if_pos (by omega)] at h10
      rw [← Array.getElem?_toList]
      exact h10
    refine ⟨bf, cap, rfl, ⟨h.flen, rfl, hcell, h.rows, ?_, (Array.getElem?_eq_some_iff.1 k5).1, k6, by simpa [maxLen] using k7⟩, k4⟩
    rw [List.nodup_cons]
    exact ⟨fun hm => (h.far bf hm).2.2 rfl, h.nodup⟩
end
end Go.Proofs.YtecofoilghdedaaDoor

/- A map whose keys are pairs of the normal form, whose elements are bools. -/
namespace Go.Proofs.YtecofoilghdedaaDoor
open Go.RowKit Go.ChangeMaps Go.MapKept Go.Maps
set_option linter.unusedVariables false

theorem laidOutN : laidOutB Tryd.prog = true := by kernel_rfl
theorem rowPair : (94 : TypeId) < Tryd.prog.types.size := of_decide_eq_true (by kernel_rfl)
theorem widePair : (match Tryd.prog.underlying 94 with | some (.array _ _) | some (.struct _) => true | _ => false) = true := by kernel_rfl
theorem keyAtPair : Tryd.prog.keyTypeAt 2 94 = true := by kernel_rfl
set_option maxRecDepth 100000 in
theorem keyedPair : Keyed Tryd.prog 94 := Keyed.of_law (deep_law_laid laidOutN (m := 2) (by omega) rowPair keyAtPair widePair)
def pairV (l a b : Int) : Value := .agg #[.int .i64 l, .int .i64 a, .int .i64 b]
def pairK (l a b : Int) : Lit := .string (keyBytes [.int .i64 l, .int .i64 a, .int .i64 b])
theorem pair_types : ∃ m, Tryd.prog.types.size = m + 1 := ⟨Tryd.prog.types.size - 1, by have : 0 < Tryd.prog.types.size := of_decide_eq_true (by kernel_rfl); omega⟩
theorem wf64 {n : Int} (h : I64 n) : (Lit.int .i64 n).wf = true := by
  unfold Lit.wf
  have e1 : IntKind.min .i64 = -9223372036854775808 := by decide
  have e2 : IntKind.max .i64 = 9223372036854775807 := by decide
  simp only [e1, e2, Bool.and_eq_true, decide_eq_true_eq]
  exact ⟨h.1, h.2⟩
theorem keyLits_int {m : Nat} {n : Int} (h : I64 n) : Tryd.prog.keyLits (m + 1) 3 [.int .i64 n] = some [.int .i64 n] := by
  unfold Program.keyLits
  rw [Tryd.underlying3]
  simp [wf64 h]
theorem keyType_pair : Tryd.prog.keyType 94 = true := by kernel_rfl
theorem cells_pair : Tryd.prog.cellsOf 94 = 3 := by kernel_rfl
theorem cells_int : Tryd.prog.cellsOf 3 = 1 := by kernel_rfl
theorem key_pair {l a b : Int} (h1 : I64 l) (h2 : I64 a) (h3 : I64 b) : keyOf Tryd.prog 94 (pairV l a b) = some (pairK l a b) := by
  obtain ⟨m, hm⟩ := pair_types
  have hf : (pairV l a b).formed Tryd.prog 94 = true := by simp [pairV, Value.formed, Tryd.underlying94, cells_pair]
  have hk : Tryd.prog.keyLits (Tryd.prog.types.size + 1) 94 (pairV l a b).cells.toList = some [.int .i64 l, .int .i64 a, .int .i64 b] := by
    rw [hm]
    unfold Program.keyLits
    rw [Tryd.underlying94]
    simp [pairV, Value.cells, cells_pair, cells_int, keyLits_int h1, keyLits_int h2, keyLits_int h3]
  unfold keyOf
  rw [Tryd.underlying94]
  simp only [keyType_pair, hf, hk, Bool.and_self, if_true, Option.map_some]
  rfl
theorem pairK_inj {l a b l' a' b' : Int} (h1 : I64 l) (h2 : I64 a) (h3 : I64 b) (k1 : I64 l') (k2 : I64 a') (k3 : I64 b') (h : pairK l a b = pairK l' a' b') : l = l' ∧ a = a' ∧ b = b' := by
  have e := keyedPair.inj (key_pair h1 h2 h3) (by rw [h]; exact key_pair k1 k2 k3)
  simp [pairV] at e
  exact ⟨e.1, e.2.1, e.2.2⟩
theorem zeroBool (w : World) : (zeroValue 4).run Tryd.prog w = .ok (.bool false) w := by kernel_rfl

/-- Block MB is a map that holds true at the pairs of X and nothing else. -/
def PairM (w : World) (MB n : Nat) (X : Int → Int → Int → Prop) : Prop :=
  ∃ D : DataW Unit, w.ownsMap Tryd.prog 94 (plainElem Tryd.prog 4) MB n D ∧ IsMap D ∧ ∀ l a b : Int, I64 l → I64 a → I64 b → ∃ x : Bool, D.atKey (pairK l a b) (.lit (.bool false)) = .lit (.bool x) ∧ (x = true ↔ X l a b)
section
variable {w w' : World} {MB n : Nat} {X Y : Int → Int → Int → Prop}
theorem PairM.made (w : World) : PairM (w.alloc (.map #[] 0)) w.heap.size 0 (fun _ _ _ => False) :=
  ⟨_, World.ownsMap_made _ _ _ _, ⟨_, rfl⟩, fun l a b _ _ _ => ⟨false, rfl, by simp⟩⟩
theorem PairM.lt (h : PairM w MB n X) : MB < w.heap.size := by
  obtain ⟨D, h, _⟩ := h
  exact h.lt
theorem PairM.below (h : PairM w MB n X) (hb : Below w.heap.size w w') : PairM w' MB n X := by
  obtain ⟨D, h1, h2, h3⟩ := h
  exact ⟨D, h1.kept (row := none) ⟨hb.os, hb.tape, hb.output, hb.size, fun k hk _ => hb.block k hk⟩ (by simp), h2, h3⟩
theorem PairM.kept {Z : Nat → Prop} (h : PairM w MB n X) (k : Kept Z w w') (hz : ¬ Z MB) : PairM w' MB n X := by
  obtain ⟨D, h1, h2, h3⟩ := h
  obtain ⟨es, clock, hb, r⟩ := h1
  exact ⟨D, ⟨es, clock, (k.block MB (Array.getElem?_eq_some_iff.1 hb).1 hz).trans hb, r⟩, h2, h3⟩
theorem PairM.iff (h : PairM w MB n X) (hxy : ∀ l a b, I64 l → I64 a → I64 b → (X l a b ↔ Y l a b)) : PairM w MB n Y := by
  obtain ⟨D, h1, h2, h3⟩ := h
  refine ⟨D, h1, h2, fun l a b i1 i2 i3 => ?_⟩
  obtain ⟨x, e1, e2⟩ := h3 l a b i1 i2 i3
  exact ⟨x, e1, e2.trans (hxy l a b i1 i2 i3)⟩
set_option maxRecDepth 100000 in
theorem PairM.look (h : PairM w MB n X) {l a b : Int} (i1 : I64 l) (i2 : I64 a) (i3 : I64 b) : ∃ x : Bool, (Instr.lookup 109 (.map (some MB)) (.agg #[.int .i64 l, .int .i64 a, .int .i64 b]) false).run Tryd.prog w = .ok (.bool x) w ∧ (x = true ↔ X l a b) := by
  obtain ⟨D, h1, h2, h3⟩ := h
  obtain ⟨x, e1, e2⟩ := h3 l a b i1 i2 i3
  obtain ⟨v, ps, hrun, hv⟩ := h1.lookup keyedPair Tryd.underlying109 (zeroBool w) (plainElem_bool Tryd.underlying4 false) (key_pair i1 i2 i3)
  rw [e1] at hv
  have : v = .bool x := by
    unfold plainElem at hv
    rw [Tryd.underlying4] at hv
    cases v <;> simp at hv
    rw [hv.1]
  subst this
  exact ⟨x, hrun, e2⟩
set_option maxRecDepth 100000 in
theorem PairM.put (h : PairM w MB n X) (hn : n < maxLen) {l a b : Int} (i1 : I64 l) (i2 : I64 a) (i3 : I64 b) : ∃ w', (Instr.mapUpdate 109 (.map (some MB)) (.agg #[.int .i64 l, .int .i64 a, .int .i64 b]) (.bool true)).run Tryd.prog w = .ok () w' ∧ PairM w' MB (n + 1) (fun l' a' b' => X l' a' b' ∨ (l' = l ∧ a' = a ∧ b' = b)) ∧ w.grownBy w' (some MB) := by
  obtain ⟨D, h1, h2, h3⟩ := h
  obtain ⟨w', hrun, hown, hg⟩ := h1.update keyedPair Tryd.underlying109 hn (key_pair i1 i2 i3) (plainElem_bool Tryd.underlying4 true)
  refine ⟨w', hrun, ⟨_, hown, h2.put _ _, fun l' a' b' j1 j2 j3 => ?_⟩, hg⟩
  by_cases e : pairK l' a' b' = pairK l a b
  · have e3 := pairK_inj j1 j2 j3 i1 i2 i3 e
    rw [e]
    exact ⟨true, Maps.atKey_put_same h2 (show WideAt.IsKeyLit (pairK l a b) from trivial) _ _, ⟨fun _ => .inr e3, fun _ => rfl⟩⟩
  · rw [Maps.atKey_put_other e]
    obtain ⟨x, e1, e2⟩ := h3 l' a' b' j1 j2 j3
    refine ⟨x, e1, e2.trans ⟨.inl, fun h => ?_⟩⟩
    rcases h with h | ⟨rfl, rfl, rfl⟩
    · exact h
    · exact absurd rfl e
end
end Go.Proofs.YtecofoilghdedaaDoor

/- The index of the first element that a predicate takes; a function's number that is entered by a call through a value. -/
namespace Go.Proofs.YtecofoilghdedaaDoor
open Go.RowKit

def idxI {α : Type} (p : α → Bool) (xs : List α) : Int := if xs.any p then (xs.findIdx p : Nat) else -1
theorem idxI_hit {α : Type} {p : α → Bool} {xs : List α} {k : Nat} {x : α} (hx : xs[k]? = some x) (hp : p x = true) (hno : ∀ y ∈ xs.take k, p y = false) : idxI p xs = k := by
  have hlt := (List.getElem?_eq_some_iff.1 hx).1
  have hm : x ∈ xs := List.mem_of_getElem? hx
  have ha : xs.any p = true := List.any_eq_true.2 ⟨x, hm, hp⟩
  rw [idxI, if_pos ha]
  congr 1
  have e : xs = xs.take k ++ x :: xs.drop (k + 1) := by rw [← drop_cons hx, List.take_append_drop]
  have h1 : (xs.take k).length = k := by simp; omega
  rw [e, List.findIdx_append, if_neg (by rw [h1]; intro h; have := List.findIdx_lt_length.1 (by rw [h1]; exact h : (xs.take k).findIdx p < (xs.take k).length); obtain ⟨y, hy, hpy⟩ := this; rw [hno y hy] at hpy; cases hpy)]
  rw [List.findIdx_cons, hp, h1]; simp
theorem idxI_none {α : Type} {p : α → Bool} {xs : List α} (hno : ∀ y ∈ xs, p y = false) : idxI p xs = -1 := by
  rw [idxI, if_neg]
  intro h
  obtain ⟨y, hy, hp⟩ := List.any_eq_true.1 h
  rw [hno y hy] at hp; cases hp
theorem idxI_nonneg {α : Type} (p : α → Bool) (xs : List α) : decide (0 ≤ idxI p xs) = xs.any p := by
  unfold idxI; split
  · rename_i h; rw [h]; simp
  · rename_i h; simp only [Bool.not_eq_true] at h; rw [h]; rfl
def IsGo (F : Nat) : Prop := ∀ (args : Array Value) (W : World), (callFunc F args).run Tryd.prog W = .ok (.enter F args) W
theorem isGo_of {F : Nat} {fn : Func} (hf : Tryd.prog.funcs[F]? = some fn) (h1 : (fn.name == "runtime.NumGoroutine") = false) (h2 : fn.body.isNone = false) : IsGo F := by
  intro args W
  have h1' : ¬ fn.name = "runtime.NumGoroutine" := by simpa using h1
  have h2' : ¬ fn.body = none := by intro e; rw [e] at h2; cases h2
  simp [callFunc, program, Sem.run, hf, h1', h2']

end Go.Proofs.YtecofoilghdedaaDoor

/- Rows of the call's own whose elements lead to a set of blocks that is given; two such rows side by side. No program is named here. -/
namespace Go.Proofs.YtecofoilghdedaaDoor
open Go.RowKit
set_option linter.unusedVariables false

/-- v is a row of the call's own; its elements lead to T, which the row's block is not of. -/
def OwnX {α : Type} [Dat α] (w : World) (T : Nat → Prop) (base : Nat) (e : TypeId) (v : Value) (xs : List α) : Prop :=
  ∃ css : List (List Value), w.ownsRow base e (Dat.size α) v xs.length css.flatten ∧ css.length = xs.length ∧
    (∀ (i : Nat) (x : α) (cs : List Value), xs[i]? = some x → css[i]? = some cs → Dat.rd w T x cs) ∧ (∀ k, v.ownBlock = some k → ¬ T k) ∧ (∀ b, T b → b < w.heap.size)

section
variable {w w' : World} {S T T' : Nat → Prop} {base : Nat} {e : TypeId} {v : Value} {α : Type} [Dat α] {xs : List α}
theorem OwnX.nil (w : World) (T : Nat → Prop) (base : Nat) (e : TypeId) (hT : ∀ b, T b → b < w.heap.size) : OwnX w T base e (.slice none 0 0) ([] : List α) :=
  ⟨[], World.ownsRow_nil w base e _, rfl, fun i x cs h => by simp at h, fun k h => by simp [Value.ownBlock] at h, hT⟩
theorem OwnX.block (h : OwnX w T base e v xs) : ∀ k, v.ownBlock = some k → base ≤ k ∧ k < w.heap.size := by
  obtain ⟨css, h1, _⟩ := h
  exact h1.lt
theorem OwnX.mono (h : OwnX w T base e v xs) (hs : ∀ b, T b → T' b) (hv : ∀ k, v.ownBlock = some k → ¬ T' k) (hT : ∀ b, T' b → b < w.heap.size) : OwnX w T' base e v xs := by
  obtain ⟨css, h1, h2, h3, h4, h5⟩ := h
  exact ⟨css, h1, h2, fun i x cs hi hc => Dat.keep (fun _ _ _ => rfl) hs (h3 i x cs hi hc), hv, hT⟩
theorem OwnX.grown {row : Option Nat} (h : OwnX w T base e v xs) (hg : w.grownBy w' row) (hne : ∀ k, row = some k → v.ownBlock ≠ some k ∧ ¬ T k) : OwnX w' T base e v xs := by
  obtain ⟨css, h1, h2, h3, h4, h5⟩ := h
  refine ⟨css, h1.kept hg ?_, h2, fun i x cs hi hc => Dat.keep (fun p hp hlt => ?_) (fun _ hb => hb) (h3 i x cs hi hc), h4, fun b hb => Nat.lt_of_lt_of_le (h5 b hb) hg.size⟩
  · cases hv : v.ownBlock with
    | none => exact .inl rfl
    | some k => exact .inr (fun e => (hne k e.symm).1 hv)
  · exact World.cell?_of_block (hg.block p.block hlt (fun e => (hne _ e.symm).2 hp))
theorem OwnX.below {B : Nat} (h : OwnX w T base e v xs) (hb : Below B w w') (hB : w.heap.size ≤ B) : OwnX w' T base e v xs :=
  h.grown (row := none) ⟨hb.os, hb.tape, hb.output, hb.size, fun k hk _ => hb.block k (by omega)⟩ (fun k h => by cases h)
theorem OwnX.own (h : OwnX w T base e v xs) (hT : ∀ b, T b → S b ∨ base ≤ b) : Own w S base e v xs := by
  obtain ⟨css, h1, h2, h3, h4, h5⟩ := h
  exact ⟨css, h1, h2, fun i x cs hi hc => Dat.keep (fun _ _ _ => rfl) (fun b hb => ⟨hT b hb, fun e => h4 b e hb, h5 b hb⟩) (h3 i x cs hi hc)⟩
theorem OwnX.form (h : OwnX w T base e v xs) : ∃ A c, v = .slice A xs.length c ∧ xs.length ≤ c ∧ c ≤ 9223372036854775807 ∧ (xs = [] ∨ ∃ g, A = some ⟨g, 0, none⟩ ∧ base ≤ g ∧ g < w.heap.size) := by
  obtain ⟨css, h1, h2, _⟩ := h
  rcases h1.2 with ⟨rfl, hn⟩ | ⟨g, cap, cur, rfl, hg, hh, hnc, hcm, _⟩
  · refine ⟨none, 0, by rw [hn], by omega, by omega, .inl (List.eq_nil_of_length_eq_zero hn)⟩
  · exact ⟨_, cap, rfl, hnc, by simpa [maxLen] using hcm, .inr ⟨g, rfl, hg, (Array.getElem?_eq_some_iff.1 hh).1⟩⟩
end

section
variable {P : Program} {w : World} {T : Nat → Prop} {base : Nat} {α : Type} [Dat α]
theorem ownX_many {e : TypeId} {v v' : Value} {w' : World} {xs ys : List α} {css dss : List (List Value)}
    (h2 : css.length = xs.length) (h3 : ∀ (i : Nat) (x : α) (cs : List Value), xs[i]? = some x → css[i]? = some cs → Dat.rd w T x cs) (h4 : ∀ k, v.ownBlock = some k → ¬ T k) (h5 : ∀ b, T b → b < w.heap.size)
    (h2' : dss.length = ys.length) (h3' : ∀ (i : Nat) (x : α) (cs : List Value), ys[i]? = some x → dss[i]? = some cs → Dat.rd w T x cs)
    (hown : w'.ownsRow base e (Dat.size α) v' (xs.length + ys.length) (css.flatten ++ dss.flatten))
    (hg : w.grownBy w' v.ownBlock) (hat : v'.ownBlock = v.ownBlock ∨ v'.ownBlock = some w.heap.size) : OwnX w' T base e v' (xs ++ ys) := by
  have hkeep : ∀ {y : α} {ds : List Value}, Dat.rd w T y ds → Dat.rd w' T y ds := fun hy =>
    Dat.keep (fun p hp hlt => World.cell?_of_block (hg.block p.block hlt (fun e => h4 _ e.symm hp))) (fun b hb => hb) hy
  refine ⟨css ++ dss, by simpa using hown, by simp [h2, h2'], fun i y ds hi hd => ?_, fun k hk hTk => ?_, fun b hb => Nat.lt_of_lt_of_le (h5 b hb) hg.size⟩
  · rcases Nat.lt_or_ge i xs.length with hlt | hge
    · rw [List.getElem?_append_left hlt] at hi
      rw [List.getElem?_append_left (by omega)] at hd
      exact hkeep (h3 i y ds hi hd)
    · rw [List.getElem?_append_right hge] at hi
      rw [List.getElem?_append_right (by omega), h2] at hd
      exact hkeep (h3' _ y ds hi hd)
  · rcases hat with e | e
    · exact h4 k (e ▸ hk) hTk
    · rw [hk] at e; injection e with e; have := h5 k hTk; omega

/-- append of one element that lies at the head of a block of its own. -/
theorem run_ownX1 {t ty e : TypeId} {bytes : Nat} (hT : ElemT P α t e bytes) {v : Value} {xs : List α} {x : α} {cs : List Value} {g c : Nat} (hown : OwnX w T base e v xs)
    (hat : At w g 0 cs) (hrd : Dat.rd w T x cs) (hlen : (xs.length + 1) * bytes ≤ 140737488355328) (hmax : xs.length + 1 ≤ 9223372036854775807) (hbase : base ≤ w.heap.size) :
    ∃ v' w', (Builtin.append_ #[t, t] ty #[v, .slice (some ⟨g, 0, none⟩) 1 c]).run P w = .ok v' w' ∧ OwnX w' T base e v' (xs ++ [x]) ∧ w.grownBy w' v.ownBlock ∧ (v'.ownBlock = v.ownBlock ∨ v'.ownBlock = some w.heap.size) := by
  obtain ⟨i, z, ht, hi, hz, hsize, hby, hzs⟩ := hT
  obtain ⟨css, h1, h2, h3, h4, h5⟩ := hown
  have hcl := Dat.len hrd
  obtain ⟨v', w', hr, ho, hg, _, h6⟩ := run_append_own_at (P := P) w base t ty e i z (Dat.size α) bytes ht hi hz hsize hby hzs Dat.pos v xs.length css.flatten h1 ⟨g, 0, none⟩ 1 c cs (by omega)
    (by intro j u hu; have h := hat j u hu; have hadd : (⟨g, 0, none⟩ : Addr).add j = ⟨g, 0 + j, none⟩ := by unfold Addr.add; split <;> simp_all
        rw [hadd]; exact h) (Dat.one hrd) (by simpa [maxLen] using hmax) hlen hbase
  exact ⟨v', w', hr, ownX_many (ys := [x]) (dss := [cs]) h2 h3 h4 h5 rfl (rd_one hrd) (by simpa using ho) hg h6, hg, h6⟩
end

theorem At.alloc {w : World} {b o : Nat} {cs : List Value} (h : At w b o cs) (hl : 0 < cs.length) (ob : Obj) : At (w.alloc ob) b o cs :=
  h.keep (fun p hp => ((Below.refl w.heap.size w).alloc (Nat.le_refl _) ob).cell (hp ▸ h.lt hl))
theorem At.grown {w w' : World} {b o : Nat} {cs : List Value} {row : Option Nat} (h : At w b o cs) (hl : 0 < cs.length) (hg : w.grownBy w' row) (hne : some b ≠ row) : At w' b o cs :=
  h.keep (fun p hp => World.cell?_of_block (hg.block p.block (hp ▸ h.lt hl) (hp ▸ hne)))
theorem At.drew {w : World} {b o : Nat} {cs : List Value} (h : At w b o cs) : At w.drew b o cs := h
theorem At.new1 (w : World) (cs : List Value) (t : TypeId) (ob : Obj) : At ((w.alloc ob).alloc (.cells cs.toArray t)) (w.heap.size + 1) 0 cs := by
  have h := At.new (w.alloc ob) cs t
  rwa [show (w.alloc ob).heap.size = w.heap.size + 1 from by simp] at h
theorem Els.grown {α : Type} [Dat α] {w w' : World} {S : Nat → Prop} {xs : List α} {A : Option Addr} {row : Option Nat} (h : Els w S xs A) (hg : w.grownBy w' row) (hne : ∀ k, row = some k → ¬ S k) : Els w' S xs A :=
  h.keep (fun p hp hlt => World.cell?_of_block (hg.block p.block hlt (fun e => hne _ e.symm hp))) (fun _ hb => hb)

/-! ### Two rows side by side -/
def T2 (S : Nat → Prop) (B : Nat) (v1 v2 : Value) (w : World) (b : Nat) : Prop := (S b ∨ B ≤ b) ∧ v1.ownBlock ≠ some b ∧ v2.ownBlock ≠ some b ∧ b < w.heap.size
def Two {α β : Type} [Dat α] [Dat β] (w : World) (S : Nat → Prop) (B : Nat) (e1 e2 : TypeId) (v1 v2 : Value) (xs : List α) (ys : List β) : Prop :=
  OwnX w (T2 S B v1 v2 w) B e1 v1 xs ∧ OwnX w (T2 S B v1 v2 w) B e2 v2 ys ∧ ∀ k, v1.ownBlock = some k → v2.ownBlock ≠ some k
section
variable {w w' : World} {S : Nat → Prop} {B : Nat} {e1 e2 : TypeId} {v1 v2 : Value} {α β : Type} [Dat α] [Dat β] {xs : List α} {ys : List β}
theorem T2.swap {b : Nat} (h : T2 S B v1 v2 w b) : T2 S B v2 v1 w b := ⟨h.1, h.2.2.1, h.2.1, h.2.2.2⟩
theorem T2.below {b : Nat} (h : T2 S B v1 v2 w b) (hs : w.heap.size ≤ w'.heap.size) : T2 S B v1 v2 w' b := ⟨h.1, h.2.1, h.2.2.1, Nat.lt_of_lt_of_le h.2.2.2 hs⟩
theorem Two.swap (h : Two w S B e1 e2 v1 v2 xs ys) : Two w S B e2 e1 v2 v1 ys xs :=
  ⟨h.2.1.mono (fun _ => T2.swap) (fun k hk hb => hb.2.1 hk) (fun _ hb => hb.2.2.2), h.1.mono (fun _ => T2.swap) (fun k hk hb => hb.2.2.1 hk) (fun _ hb => hb.2.2.2), fun k h1 h2 => h.2.2 k h2 h1⟩
theorem Two.nil (w : World) (S : Nat → Prop) (B : Nat) (e1 e2 : TypeId) : Two w S B e1 e2 (.slice none 0 0) (.slice none 0 0) ([] : List α) ([] : List β) :=
  ⟨OwnX.nil _ _ _ _ (fun _ hb => hb.2.2.2), OwnX.nil _ _ _ _ (fun _ hb => hb.2.2.2), fun k h => by simp [Value.ownBlock] at h⟩
theorem Two.grown {row : Option Nat} (h : Two w S B e1 e2 v1 v2 xs ys) (hg : w.grownBy w' row) (hne : ∀ k, row = some k → ¬ (S k ∨ B ≤ k)) : Two w' S B e1 e2 v1 v2 xs ys := by
  have hr1 : ∀ k, row = some k → v1.ownBlock ≠ some k := fun k hk e => hne k hk (.inr (h.1.block k e).1)
  have hr2 : ∀ k, row = some k → v2.ownBlock ≠ some k := fun k hk e => hne k hk (.inr (h.2.1.block k e).1)
  exact ⟨(h.1.grown hg fun k hk => ⟨hr1 k hk, fun hb => hne k hk hb.1⟩).mono (fun _ hb => hb.below hg.size) (fun k hk hb => hb.2.1 hk) (fun _ hb => hb.2.2.2),
    (h.2.1.grown hg fun k hk => ⟨hr2 k hk, fun hb => hne k hk hb.1⟩).mono (fun _ hb => hb.below hg.size) (fun k hk hb => hb.2.2.1 hk) (fun _ hb => hb.2.2.2), h.2.2⟩
theorem Two.below {C : Nat} (h : Two w S B e1 e2 v1 v2 xs ys) (hb : Below C w w') (hC : w.heap.size ≤ C) : Two w' S B e1 e2 v1 v2 xs ys :=
  h.grown (row := none) ⟨hb.os, hb.tape, hb.output, hb.size, fun k hk _ => hb.block k (by omega)⟩ (fun k h => by cases h)
theorem Two.alloc (h : Two w S B e1 e2 v1 v2 xs ys) (o : Obj) : Two (w.alloc o) S B e1 e2 v1 v2 xs ys := h.below ((Below.refl w.heap.size w).alloc (Nat.le_refl _) o) (Nat.le_refl _)
theorem Two.drew (h : Two w S B e1 e2 v1 v2 xs ys) : Two w.drew S B e1 e2 v1 v2 xs ys := h.below ((Below.refl w.heap.size w).drew) (Nat.le_refl _)
theorem Two.drewN (h : Two w S B e1 e2 v1 v2 xs ys) (n : Nat) : Two (w.drewN n) S B e1 e2 v1 v2 xs ys := h.below (bdrewN (Below.refl w.heap.size w)) (Nat.le_refl _)
theorem Two.set_ (h : Two w S B e1 e2 v1 v2 xs ys) {p : Addr} (hp : ¬ (S p.block ∨ B ≤ p.block)) (u : Value) : Two (w.setCell p u) S B e1 e2 v1 v2 xs ys :=
  h.grown (row := some p.block) ⟨rfl, rfl, rfl, by simp [World.setCell], fun k _ hk => Below.heap_setCell _ _ _ _ (fun e => hk (by rw [e]))⟩ (fun k hk => by cases hk; exact hp)
/-- What an append to the first row leaves. -/
theorem Two.pushed {v1' : Value} {xs' : List α} (h : Two w S B e1 e2 v1 v2 xs ys) (h1 : OwnX w' (T2 S B v1 v2 w) B e1 v1' xs') (hg : w.grownBy w' v1.ownBlock) (hat : v1'.ownBlock = v1.ownBlock ∨ v1'.ownBlock = some w.heap.size) : Two w' S B e1 e2 v1' v2 xs' ys := by
  have h2 := h.2.1.grown hg fun k hk => ⟨fun e => h.2.2 k hk e, fun hb => hb.2.1 hk⟩
  have hd : ∀ k, v1'.ownBlock = some k → v2.ownBlock ≠ some k := by
    intro k hk e
    rcases hat with e' | e'
    · exact h.2.2 k (e' ▸ hk) e
    · rw [hk] at e'; injection e' with e'; have := (h.2.1.block k e).2; omega
  have hsub : ∀ b, T2 S B v1 v2 w b → T2 S B v1' v2 w' b := fun b hb => ⟨hb.1, (by
    rcases hat with e' | e'
    · rw [e']; exact hb.2.1
    · rw [e']; intro e; injection e with e; have := hb.2.2.2; omega), hb.2.2.1, Nat.lt_of_lt_of_le hb.2.2.2 hg.size⟩
  exact ⟨h1.mono hsub (fun k hk hb => hb.2.1 hk) (fun _ hb => hb.2.2.2), h2.mono hsub (fun k hk hb => hb.2.2.1 hk) (fun _ hb => hb.2.2.2), hd⟩
/-- Both rows, for a reader. -/
theorem Two.vl1 (h : Two w S B e1 e2 v1 v2 xs ys) : Vl w (fun b => (S b ∨ B ≤ b) ∧ b < w.heap.size) xs v1 := (h.1.own (S := S) (fun _ hb => hb.1)).vl
theorem Two.vl2 (h : Two w S B e1 e2 v1 v2 xs ys) : Vl w (fun b => (S b ∨ B ≤ b) ∧ b < w.heap.size) ys v2 := (h.2.1.own (S := S) (fun _ hb => hb.1)).vl
end

section
variable {P : Program} (w : World) {S : Nat → Prop} {B : Nat} {α β : Type} [Dat α] [Dat β]
theorem wp_two1 {o : Oper} {a : Act} {K : Act → World → Prop} {Q : Exit → Act → World → Prop} (s xo : Operand) {t e1 e2 : TypeId} {bytes : Nat} (hT : ElemT P α t e1 bytes)
    (ho : o.op = .call { callee := .builtin .append, args := #[s, xo], argTypes := #[t, t] })
    {v1 v2 : Value} {xs : List α} {ys : List β} (hs : a.eval s = v1) (hown : Two w S B e1 e2 v1 v2 xs ys) (x : α) (cs : List Value) {g c : Nat} (hx : a.eval xo = .slice (some ⟨g, 0, none⟩) 1 c)
    (hat : At w g 0 cs) (hrd : Dat.rd w (T2 S B v1 v2 w) x cs) (hlen : (xs.length + 1) * bytes ≤ 140737488355328) (hmax : xs.length + 1 ≤ 9223372036854775807) (hbase : B ≤ w.heap.size)
    (h : ∀ v' w', Two w' S B e1 e2 v' v2 (xs ++ [x]) ys → w.grownBy w' v1.ownBlock → (v'.ownBlock = v1.ownBlock ∨ v'.ownBlock = some w.heap.size) → K (a.put o.dst v') w') : o.wp P a w K Q := by
  obtain ⟨v', w', hrun, h2, h3, h4⟩ := run_ownX1 (ty := o.type) (c := c) hT hown.1 hat hrd hlen hmax hbase
  unfold Oper.wp execOp
  simp only [ho, resolve, invoke, builtin, Sem.run_bind, Sem.run_pure, Result.andThen_ok, List.map_toArray, List.map_cons, List.map_nil, hs, hx, hrun]
  exact h v' w' (hown.pushed h2 h3 h4) h3 h4
theorem wpList_two1 {ops : Array Oper} {rest : List Oper} {o : Oper} {a : Act} {Q : Exit → Act → World → Prop} (hgd : o.guard = none) (s xo : Operand) {t e1 e2 : TypeId} {bytes : Nat} (hT : ElemT P α t e1 bytes)
    (ho : o.op = .call { callee := .builtin .append, args := #[s, xo], argTypes := #[t, t] })
    {v1 v2 : Value} {xs : List α} {ys : List β} (hs : a.eval s = v1) (hown : Two w S B e1 e2 v1 v2 xs ys) (x : α) (cs : List Value) {g c : Nat} (hx : a.eval xo = .slice (some ⟨g, 0, none⟩) 1 c)
    (hat : At w g 0 cs) (hrd : Dat.rd w (T2 S B v1 v2 w) x cs) (hlen : (xs.length + 1) * bytes ≤ 140737488355328) (hmax : xs.length + 1 ≤ 9223372036854775807) (hbase : B ≤ w.heap.size)
    (h : ∀ v' w', Two w' S B e1 e2 v' v2 (xs ++ [x]) ys → w.grownBy w' v1.ownBlock → (v'.ownBlock = v1.ownBlock ∨ v'.ownBlock = some w.heap.size) → wpList P ops Q rest (a.put o.dst v') w') : wpList P ops Q (o :: rest) a w :=
  wpList_plain hgd fun _ hK => wp_two1 w s xo hT ho hs hown x cs hx hat hrd hlen hmax hbase fun v' w' h2 h3 h4 => hK _ _ (h v' w' h2 h3 h4)
theorem step_two1 {ops : Array Oper} {o : Oper} {a : Act} {K : Act → World → Prop} {Q : Exit → Act → World → Prop} {E : Prop} (hgd : o.guard = none) (s xo : Operand) {t e1 e2 : TypeId} {bytes : Nat} (hT : ElemT P α t e1 bytes)
    (ho : o.op = .call { callee := .builtin .append, args := #[s, xo], argTypes := #[t, t] })
    {v1 v2 : Value} {xs : List α} {ys : List β} (hs : a.eval s = v1) (hown : Two w S B e1 e2 v1 v2 xs ys) (x : α) (cs : List Value) {g c : Nat} (hx : a.eval xo = .slice (some ⟨g, 0, none⟩) 1 c)
    (hat : At w g 0 cs) (hrd : Dat.rd w (T2 S B v1 v2 w) x cs) (hlen : (xs.length + 1) * bytes ≤ 140737488355328) (hmax : xs.length + 1 ≤ 9223372036854775807) (hbase : B ≤ w.heap.size)
    (h : ∀ v' w', Two w' S B e1 e2 v' v2 (xs ++ [x]) ys → w.grownBy w' v1.ownBlock → (v'.ownBlock = v1.ownBlock ∨ v'.ownBlock = some w.heap.size) → K (a.put o.dst v') w') :
    if Region.wanted o (yielded ops a.tmps) = true then Oper.wp P o a w K Q else E := by
  have hw : Region.wanted o (yielded ops a.tmps) = true := by simp [Region.wanted, hgd]
  rw [if_pos hw]
  exact wp_two1 w s xo hT ho hs hown x cs hx hat hrd hlen hmax hbase h
end
end Go.Proofs.YtecofoilghdedaaDoor

/- Rows whose elements lead to a given set: append of a whole slice; a store elsewhere. -/
namespace Go.Proofs.YtecofoilghdedaaDoor
open Go.RowKit
set_option linter.unusedVariables false
section
variable {w w' : World} {S T : Nat → Prop} {base : Nat} {e : TypeId} {v : Value} {α : Type} [Dat α] {xs : List α}
theorem Own.toX (h : Own w S base e v xs) : OwnX w (OwnT S base v w) base e v xs := by
  obtain ⟨css, h1, h2, h3⟩ := h
  exact ⟨css, h1, h2, h3, fun k hk hT => hT.2.1 hk, fun b hb => hb.2.2⟩
theorem OwnX.setCell (h : OwnX w T base e v xs) {p : Addr} (hp : v.ownBlock ≠ some p.block) (hT : ¬ T p.block) (u : Value) : OwnX (w.setCell p u) T base e v xs :=
  h.grown (row := some p.block) ⟨rfl, rfl, rfl, by simp [World.setCell], fun k _ hk => Below.heap_setCell _ _ _ _ (fun e => hk (by rw [e]))⟩ (fun k hk => by cases hk; exact ⟨hp, hT⟩)
theorem OwnX.kept {X : Nat → Prop} (h : OwnX w T base e v xs) (k : Kept X w w') (hx : ∀ b, X b → v.ownBlock ≠ some b ∧ ¬ T b) : OwnX w' T base e v xs := by
  obtain ⟨css, h1, h2, h3, h4, h5⟩ := h
  have hg : ∀ g, v.ownBlock = some g → w'.heap[g]? = w.heap[g]? := fun g hg => k.block g (h1.lt g hg).2 (fun hX => (hx g hX).1 hg)
  refine ⟨css, ?_, h2, fun i x cs hi hc => Dat.keep (fun p hp hlt => k.cell hlt (fun hX => (hx _ hX).2 hp)) (fun _ hb => hb) (h3 i x cs hi hc), h4, fun b hb => Nat.lt_of_lt_of_le (h5 b hb) k.size⟩
  refine ⟨h1.1, ?_⟩
  rcases h1.2 with q | ⟨g, cap, cur, q1, q2, q3, q4⟩
  · exact .inl q
  · exact .inr ⟨g, cap, cur, q1, q2, (hg g (by rw [q1]; rfl)).trans q3, q4⟩
end
section
variable {P : Program} {w : World} {T : Nat → Prop} {base : Nat} {α : Type} [Dat α]
theorem run_ownXMany {t ty e : TypeId} {bytes : Nat} (hT : ElemT P α t e bytes) {v : Value} {xs ys : List α} {A : Option Addr} {c : Nat} (hown : OwnX w T base e v xs) (hne : ys ≠ [])
    (hys : Els w T ys A) (hlen : (xs.length + ys.length) * bytes ≤ 140737488355328) (hmax : xs.length + ys.length ≤ 9223372036854775807) (hbase : base ≤ w.heap.size) :
    ∃ v' w', (Builtin.append_ #[t, t] ty #[v, .slice A ys.length c]).run P w = .ok v' w' ∧ OwnX w' T base e v' (xs ++ ys) ∧ w.grownBy w' v.ownBlock ∧ (v'.ownBlock = v.ownBlock ∨ v'.ownBlock = some w.heap.size) := by
  obtain ⟨i, z, ht, hi, hz, hsize, hby, hzs⟩ := hT
  obtain ⟨b, o, rfl, hb, hx⟩ := hys hne
  obtain ⟨dss, h2', h3', h4'⟩ := Els.lists (o := o) ys 0 (fun i x hi => by simpa using hx i x hi)
  simp only [Nat.zero_mul, Nat.add_zero] at h4'
  obtain ⟨css, h1, h2, h3, h4, h5⟩ := hown
  have hdl : ∀ ds ∈ dss, ds.length = Dat.size α := by
    intro ds hds
    obtain ⟨i, hi, rfl⟩ := List.getElem_of_mem hds
    exact Dat.len (h3' i _ _ (List.getElem?_eq_getElem (by omega : i < ys.length)) (List.getElem?_eq_getElem hi))
  have hfl := flat_len dss hdl
  have hone : ∀ u ∈ dss.flatten, u.oneCell' = true := by
    intro u hu
    obtain ⟨ds, hds, hu⟩ := List.mem_flatten.1 hu
    obtain ⟨i, hi, rfl⟩ := List.getElem_of_mem hds
    exact Dat.one (h3' i _ _ (List.getElem?_eq_getElem (by omega : i < ys.length)) (List.getElem?_eq_getElem hi)) u hu
  obtain ⟨v', w', hr, ho, hg, _, h6⟩ := run_append_own_at (P := P) w base t ty e i z (Dat.size α) bytes ht hi hz hsize hby hzs Dat.pos v xs.length css.flatten h1 ⟨b, o, none⟩ ys.length c dss.flatten (by rw [hfl, h2'])
    (by
      intro j u hu
      have h := h4' j u hu
      have hadd : (⟨b, o, none⟩ : Addr).add j = ⟨b, o + j, none⟩ := by unfold Addr.add; split <;> simp_all
      rw [hadd]; exact h) hone (by simpa [maxLen] using hmax) hlen hbase
  exact ⟨v', w', hr, ownX_many h2 h3 h4 h5 h2' h3' ho hg h6, hg, h6⟩
theorem wp_ownXMany {o : Oper} {a : Act} {K : Act → World → Prop} {Q : Exit → Act → World → Prop} (s xo : Operand) {t e : TypeId} {bytes : Nat} (hT : ElemT P α t e bytes)
    (ho : o.op = .call { callee := .builtin .append, args := #[s, xo], argTypes := #[t, t] })
    {v : Value} {xs : List α} (hs : a.eval s = v) (hown : OwnX w T base e v xs) (ys : List α) {A : Option Addr} {n c : Nat} (hx : a.eval xo = .slice A n c) (hn : n = ys.length) (hne : ys ≠ [])
    (hys : Els w T ys A) (hlen : (xs.length + ys.length) * bytes ≤ 140737488355328) (hmax : xs.length + ys.length ≤ 9223372036854775807) (hbase : base ≤ w.heap.size)
    (h : ∀ v' w', OwnX w' T base e v' (xs ++ ys) → w.grownBy w' v.ownBlock → (v'.ownBlock = v.ownBlock ∨ v'.ownBlock = some w.heap.size) → K (a.put o.dst v') w') : o.wp P a w K Q := by
  subst hn
  obtain ⟨v', w', hrun, h2, h3, h4⟩ := run_ownXMany (ty := o.type) (c := c) hT hown hne hys hlen hmax hbase
  unfold Oper.wp execOp
  simp only [ho, resolve, invoke, builtin, Sem.run_bind, Sem.run_pure, Result.andThen_ok, List.map_toArray, List.map_cons, List.map_nil, hs, hx, hrun]
  exact h v' w' h2 h3 h4
end
end Go.Proofs.YtecofoilghdedaaDoor

/- Plain: the rules of the normal form, in order, as they are collected. No program is named here. -/
namespace Go.Proofs.YtecofoilghdedaaDoor
open Go.RowKit
set_option linter.unusedVariables false

structure NPair where
  left : Int
  a : Int
  b : Int
  deriving DecidableEq
structure NOne where
  left : Int
  term : Int
  deriving DecidableEq
instance instDatNPair : Dat NPair where
  size := 3
  wraps := true
  rd _ _ n cs := cs = [.int .i64 n.left, .int .i64 n.a, .int .i64 n.b] ∧ I64 n.left ∧ I64 n.a ∧ I64 n.b
  len h := by rw [h.1]; rfl
  pos := by decide
  flat h := by simp at h
  one h := by rw [h.1]; intro u hu; simp at hu; rcases hu with rfl | rfl | rfl <;> rfl
  keep _ _ h := h
instance instDatNOne : Dat NOne where
  size := 2
  wraps := true
  rd _ _ n cs := cs = [.int .i64 n.left, .int .i64 n.term] ∧ I64 n.left ∧ I64 n.term
  len h := by rw [h.1]; rfl
  pos := by decide
  flat h := by simp at h
  one h := by rw [h.1]; intro u hu; simp at hu; rcases hu with rfl | rfl <;> rfl
  keep _ _ h := h
theorem Els.npair {w : World} {S : Nat → Prop} {A : Option Addr} {k : Nat} {xs : List NPair} {x : NPair} (h : Els w S xs A) (hk : xs[k]? = some x) :
    ∃ b o, A = some ⟨b, o, none⟩ ∧ S b ∧ b < w.heap.size ∧ (I64 x.left ∧ I64 x.a ∧ I64 x.b) ∧ w.cell? ⟨b, o + k * 3, none⟩ = some (.int .i64 x.left) ∧ w.cell? ⟨b, o + k * 3 + 1, none⟩ = some (.int .i64 x.a) ∧ w.cell? ⟨b, o + k * 3 + 2, none⟩ = some (.int .i64 x.b) := by
  obtain ⟨b, o, cs, hA, hS, hb, ⟨rfl, h1⟩, hc⟩ := h.at_ hk
  exact ⟨b, o, hA, hS, hb, h1, hc.c0, hc.c1, hc.c2⟩
theorem Els.none_ {w : World} {S : Nat → Prop} {A : Option Addr} {k : Nat} {xs : List NOne} {x : NOne} (h : Els w S xs A) (hk : xs[k]? = some x) :
    ∃ b o, A = some ⟨b, o, none⟩ ∧ S b ∧ b < w.heap.size ∧ (I64 x.left ∧ I64 x.term) ∧ w.cell? ⟨b, o + k * 2, none⟩ = some (.int .i64 x.left) ∧ w.cell? ⟨b, o + k * 2 + 1, none⟩ = some (.int .i64 x.term) := by
  obtain ⟨b, o, cs, hA, hS, hb, ⟨rfl, h1⟩, hc⟩ := h.at_ hk
  exact ⟨b, o, hA, hS, hb, h1, hc.c0, hc.c1⟩

def ltNP (t u : NPair) : Prop := t.left < u.left ∨ (t.left = u.left ∧ (t.a < u.a ∨ (t.a = u.a ∧ t.b < u.b)))
def ltNO (t u : NOne) : Prop := t.left < u.left ∨ (t.left = u.left ∧ t.term < u.term)
def inP (N : Int) (t : NPair) : Prop := (0 ≤ t.left ∧ t.left < N) ∧ (0 ≤ t.a ∧ t.a < N) ∧ 0 ≤ t.b ∧ t.b < N
def inO (N m : Int) (t : NOne) : Prop := (0 ≤ t.left ∧ t.left < N) ∧ 0 ≤ t.term ∧ t.term < m
/-- The pairs of X ahead of (l, a, b), in order. -/
structure PrW (N : Nat) (X : Int → Int → Int → Prop) (l a b : Nat) (xs : List NPair) : Prop where
  sorted : xs.Pairwise ltNP
  is : ∀ t, t ∈ xs ↔ (inP N t ∧ ltNP t ⟨l, a, b⟩ ∧ X t.left t.a t.b)
structure OnW (N m : Nat) (Y : Int → Int → Prop) (l t : Nat) (ys : List NOne) : Prop where
  sorted : ys.Pairwise ltNO
  is : ∀ u, u ∈ ys ↔ (inO N m u ∧ ltNO u ⟨l, t⟩ ∧ Y u.left u.term)
section
variable {N m : Nat} {X : Int → Int → Int → Prop} {Y : Int → Int → Prop} {l a b t : Nat} {xs : List NPair} {ys : List NOne}
theorem PrW.start : PrW N X 0 0 0 [] := ⟨.nil, fun t => by
  simp only [List.not_mem_nil, false_iff]
  rintro ⟨h1, h2, _⟩
  unfold inP at h1
  unfold ltNP at h2
  dsimp only at h2
  omega⟩
theorem PrW.put (h : PrW N X l a b xs) (hl : l < N) (ha : a < N) (hb : b < N) (hx : X l a b) : PrW N X l a (b + 1) (xs ++ [⟨l, a, b⟩]) := by
  refine ⟨List.pairwise_append.2 ⟨h.sorted, by simp, fun u hu v hv => ?_⟩, fun u => ?_⟩
  · simp at hv
    subst hv
    exact ((h.is u).1 hu).2.1
  · rw [List.mem_append, h.is u]
    simp only [List.mem_singleton]
    constructor
    · rintro (⟨h1, h2, h3⟩ | rfl)
      · exact ⟨h1, by unfold ltNP at *; dsimp only at *; omega, h3⟩
      · exact ⟨by unfold inP; dsimp only; omega, by unfold ltNP; dsimp only; omega, hx⟩
    · rintro ⟨h1, h2, h3⟩
      by_cases e : u = ⟨l, a, b⟩
      · exact .inr e
      · refine .inl ⟨h1, ?_, h3⟩
        obtain ⟨u1, u2, u3⟩ := u
        simp only [NPair.mk.injEq] at e
        unfold ltNP at *
        dsimp only at *
        omega
theorem PrW.skip (h : PrW N X l a b xs) (hx : ¬ X l a b) : PrW N X l a (b + 1) xs := by
  refine ⟨h.sorted, fun u => (h.is u).trans ⟨fun ⟨h1, h2, h3⟩ => ⟨h1, by unfold ltNP at *; dsimp only at *; omega, h3⟩, fun ⟨h1, h2, h3⟩ => ⟨h1, ?_, h3⟩⟩⟩
  by_cases e : u = ⟨l, a, b⟩
  · subst e
    exact absurd h3 hx
  · obtain ⟨u1, u2, u3⟩ := u
    simp only [NPair.mk.injEq] at e
    unfold ltNP at *
    dsimp only at *
    omega
theorem PrW.nextA (h : PrW N X l a N xs) : PrW N X l (a + 1) 0 xs :=
  ⟨h.sorted, fun u => (h.is u).trans ⟨fun ⟨h1, h2, h3⟩ => ⟨h1, by unfold ltNP inP at *; dsimp only at *; omega, h3⟩, fun ⟨h1, h2, h3⟩ => ⟨h1, by unfold ltNP inP at *; dsimp only at *; omega, h3⟩⟩⟩
theorem PrW.nextL (h : PrW N X l N 0 xs) : PrW N X (l + 1) 0 0 xs :=
  ⟨h.sorted, fun u => (h.is u).trans ⟨fun ⟨h1, h2, h3⟩ => ⟨h1, by unfold ltNP inP at *; dsimp only at *; omega, h3⟩, fun ⟨h1, h2, h3⟩ => ⟨h1, by unfold ltNP inP at *; dsimp only at *; omega, h3⟩⟩⟩
/-- All of them. -/
structure PairsIs (N : Nat) (X : Int → Int → Int → Prop) (xs : List NPair) : Prop where
  sorted : xs.Pairwise ltNP
  is : ∀ t, t ∈ xs ↔ (inP N t ∧ X t.left t.a t.b)
structure OnesIs (N m : Nat) (Y : Int → Int → Prop) (ys : List NOne) : Prop where
  sorted : ys.Pairwise ltNO
  is : ∀ u, u ∈ ys ↔ (inO N m u ∧ Y u.left u.term)
theorem PrW.done (h : PrW N X N 0 0 xs) : PairsIs N X xs :=
  ⟨h.sorted, fun u => (h.is u).trans ⟨fun ⟨h1, _, h3⟩ => ⟨h1, h3⟩, fun ⟨h1, h3⟩ => ⟨h1, by unfold ltNP inP at *; dsimp only at *; omega, h3⟩⟩⟩
theorem OnW.start : OnW N m Y 0 0 [] := ⟨.nil, fun t => by
  simp only [List.not_mem_nil, false_iff]
  rintro ⟨h1, h2, _⟩
  unfold inO at h1
  unfold ltNO at h2
  dsimp only at h2
  omega⟩
theorem OnW.put (h : OnW N m Y l t ys) (hl : l < N) (ht : t < m) (hy : Y l t) : OnW N m Y l (t + 1) (ys ++ [⟨l, t⟩]) := by
  refine ⟨List.pairwise_append.2 ⟨h.sorted, by simp, fun u hu v hv => ?_⟩, fun u => ?_⟩
  · simp at hv
    subst hv
    exact ((h.is u).1 hu).2.1
  · rw [List.mem_append, h.is u]
    simp only [List.mem_singleton]
    constructor
    · rintro (⟨h1, h2, h3⟩ | rfl)
      · exact ⟨h1, by unfold ltNO at *; dsimp only at *; omega, h3⟩
      · exact ⟨by unfold inO; dsimp only; omega, by unfold ltNO; dsimp only; omega, hy⟩
    · rintro ⟨h1, h2, h3⟩
      by_cases e : u = ⟨l, t⟩
      · exact .inr e
      · refine .inl ⟨h1, ?_, h3⟩
        obtain ⟨u1, u2⟩ := u
        simp only [NOne.mk.injEq] at e
        unfold ltNO at *
        dsimp only at *
        omega
theorem OnW.skip (h : OnW N m Y l t ys) (hy : ¬ Y l t) : OnW N m Y l (t + 1) ys := by
  refine ⟨h.sorted, fun u => (h.is u).trans ⟨fun ⟨h1, h2, h3⟩ => ⟨h1, by unfold ltNO at *; dsimp only at *; omega, h3⟩, fun ⟨h1, h2, h3⟩ => ⟨h1, ?_, h3⟩⟩⟩
  by_cases e : u = ⟨l, t⟩
  · subst e
    exact absurd h3 hy
  · obtain ⟨u1, u2⟩ := u
    simp only [NOne.mk.injEq] at e
    unfold ltNO at *
    dsimp only at *
    omega
theorem OnW.nextL (h : OnW N m Y l m ys) : OnW N m Y (l + 1) 0 ys :=
  ⟨h.sorted, fun u => (h.is u).trans ⟨fun ⟨h1, h2, h3⟩ => ⟨h1, by unfold ltNO inO at *; dsimp only at *; omega, h3⟩, fun ⟨h1, h2, h3⟩ => ⟨h1, by unfold ltNO inO at *; dsimp only at *; omega, h3⟩⟩⟩
theorem OnW.done (h : OnW N m Y N 0 ys) : OnesIs N m Y ys :=
  ⟨h.sorted, fun u => (h.is u).trans ⟨fun ⟨h1, _, h3⟩ => ⟨h1, h3⟩, fun ⟨h1, h3⟩ => ⟨h1, by unfold ltNO inO at *; dsimp only at *; omega, h3⟩⟩⟩
theorem sorted_len {β : Type} {lt : β → β → Prop} (f : β → Nat) {K : Nat} (hlt : ∀ x y, lt x y → f x < f y) : ∀ (xs : List β), xs.Pairwise lt → (∀ x ∈ xs, f x < K) → xs.length ≤ K
  | [], _, _ => by simp
  | x :: xs, h, hk => by
    obtain ⟨h1, h2⟩ := List.pairwise_cons.1 h
    -- the rest lies above f x
    have aux : ∀ (ys : List β) (d : Nat), ys.Pairwise lt → (∀ y ∈ ys, d ≤ f y ∧ f y < K) → ys.length + d ≤ max K d := by
      intro ys
      induction ys with
      | nil => intro d _ _; simp; omega
      | cons y ys ih =>
        intro d hp hy
        obtain ⟨p1, p2⟩ := List.pairwise_cons.1 hp
        have hyy := hy y (by simp)
        have h3 := ih (d + 1) p2 (fun z hz => ⟨by have := hlt _ _ (p1 z hz); omega, (hy z (by simp [hz])).2⟩)
        simp only [List.length_cons]
        omega
    have := aux (x :: xs) 0 h (fun y hy => ⟨by omega, hk y hy⟩)
    omega
theorem PrW.len (h : PrW N X l a b xs) (hN : N ≤ 82) : xs.length ≤ 1000000 := by
  refine sorted_len (fun t => (t.left.toNat * 82 + t.a.toNat) * 82 + t.b.toNat) (K := 1000000) (lt := fun t u => ltNP t u ∧ inP N t ∧ inP N u) (fun t u htu => ?_) xs ?_ (fun t ht => ?_)
  · obtain ⟨h1, h2, h3⟩ := htu
    unfold ltNP inP at *
    omega
  · exact (List.pairwise_iff_forall_sublist.2 fun {t u} hs => ⟨List.pairwise_iff_forall_sublist.1 h.sorted hs, ((h.is t).1 (hs.subset (by simp))).1, ((h.is u).1 (hs.subset (by simp))).1⟩)
  · have := ((h.is t).1 ht).1
    unfold inP at this
    omega
theorem OnW.len (h : OnW N m Y l t ys) (hN : N ≤ 82) (hm : m ≤ 8) : ys.length ≤ 1000000 := by
  refine sorted_len (fun t => t.left.toNat * 82 + t.term.toNat) (K := 1000000) (lt := fun t u => ltNO t u ∧ inO N m t ∧ inO N m u) (fun t u htu => ?_) ys ?_ (fun t ht => ?_)
  · obtain ⟨h1, h2, h3⟩ := htu
    unfold ltNO inO at *
    omega
  · exact (List.pairwise_iff_forall_sublist.2 fun {t u} hs => ⟨List.pairwise_iff_forall_sublist.1 h.sorted hs, ((h.is t).1 (hs.subset (by simp))).1, ((h.is u).1 (hs.subset (by simp))).1⟩)
  · have := ((h.is t).1 ht).1
    unfold inO at this
    omega
end
end Go.Proofs.YtecofoilghdedaaDoor

