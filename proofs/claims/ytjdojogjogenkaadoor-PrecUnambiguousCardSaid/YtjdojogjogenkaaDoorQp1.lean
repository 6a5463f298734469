/- Plain facts and definitions of this proof, of several texts joined: Mem, Data, Open, Opens, PrecData, PrecP, FirstP, TreeE, BackP, Nodes, Elem, App, YieldP, ClimbP, ClimbAllowP, ClimbTot, TreeOfP, AccP. -/
import Derived.WalkKit
import Derived.WalkSpells
import Derived.WalkLawsBesides
import Derived.Deep.Draws
import Derived.Lib.Hide
import Derived.Maps.AppendAt
import Derived.Test.YtjdojogjogenkaaDoorRows
import Derived.ProofKit
import Derived.Deep.Slices
import Derived.Deep.Fields
import Derived.ChangeSame
import Derived.Test.YtjdojogjogenkaaDoorChecked
import Derived.Lib.AppendZeros
import Derived.Lib.TrailingZeros
/- How values in the model's memory read as plain data: a class of readable types, slices of them, and rows that the call itself owns and appends to. No program is named here. -/
namespace Go.Proofs.YtjdojogjogenkaaDoor
open Go.RowKit

theorem ret_int {k : IntKind} {a b : Int} (h : a = b) : Ending.returned (.int k a) = .returned (.int k b) := by rw [h]
theorem ret_bool {a b : Bool} (h : a = b) : Ending.returned (.bool a) = .returned (.bool b) := by rw [h]
theorem drop_cons {α : Type} {xs : List α} {k : Nat} {x : α} (h : xs[k]? = some x) : xs.drop k = x :: xs.drop (k + 1) := by
  obtain ⟨hlt, rfl⟩ := List.getElem?_eq_some_iff.1 h
  exact List.drop_eq_getElem_cons hlt
theorem get_some {α : Type} {xs : List α} {k : Nat} (h : k < xs.length) : ∃ x, xs[k]? = some x := ⟨_, List.getElem?_eq_getElem h⟩
theorem take_snoc {α : Type} {xs : List α} {k : Nat} {x : α} (h : xs[k]? = some x) : xs.take (k + 1) = xs.take k ++ [x] := by
  rw [List.take_add_one, h]; rfl

def I64 (n : Int) : Prop := -9223372036854775808 ≤ n ∧ n ≤ 9223372036854775807

/-- The cells cs lie in block b from offset o on. -/
def At (w : World) (b o : Nat) (cs : List Value) : Prop := ∀ j u, cs[j]? = some u → w.cell? ⟨b, o + j, none⟩ = some u

/-- A type of data that can be read: how many cells a value has, and when cells read as it. S: the blocks that the reading may touch beyond the cells themselves. -/
class Dat (α : Type) where
  size : Nat
  wraps : Bool
  rd : World → (Nat → Prop) → α → List Value → Prop
  len : ∀ {w S x cs}, rd w S x cs → cs.length = size
  pos : 0 < size
  flat : wraps = false → size = 1
  one : ∀ {w S x cs}, rd w S x cs → ∀ u ∈ cs, u.oneCell' = true
  keep : ∀ {w w' : World} {S S' : Nat → Prop} {x cs}, (∀ p : Addr, S p.block → p.block < w.heap.size → w'.cell? p = w.cell? p) → (∀ b, S b → S' b) → rd w S x cs → rd w' S' x cs

/-- The value v reads as x. -/
def Vl {α : Type} [Dat α] (w : World) (S : Nat → Prop) (x : α) (v : Value) : Prop :=
  ∃ cs, Dat.rd w S x cs ∧ v = if Dat.wraps α then .agg cs.toArray else cs.headD undef

/-- What a slice's address must lead to. -/
def Els {α : Type} [Dat α] (w : World) (S : Nat → Prop) (xs : List α) (A : Option Addr) : Prop :=
  xs ≠ [] → ∃ b o, A = some ⟨b, o, none⟩ ∧ S b ∧ ∀ i x, xs[i]? = some x → ∃ cs, Dat.rd w S x cs ∧ At w b (o + i * Dat.size α) cs

section
variable {w w' : World} {S S' : Nat → Prop} {b o : Nat}

theorem At.lt {cs : List Value} (h : At w b o cs) (hl : 0 < cs.length) : b < w.heap.size := by
  have h0 := h 0 cs[0] (List.getElem?_eq_getElem hl)
  exact World.block_lt_of_cell? w _ h0
theorem At.keep {cs : List Value} (h : At w b o cs) (hk : ∀ p : Addr, p.block = b → w'.cell? p = w.cell? p) : At w' b o cs :=
  fun j u hu => (hk _ rfl).trans (h j u hu)
theorem At.c0 {v : Value} {l : List Value} (h : At w b o (v :: l)) : w.cell? ⟨b, o, none⟩ = some v := by simpa using h 0 v rfl
theorem At.c1 {v0 v : Value} {l : List Value} (h : At w b o (v0 :: v :: l)) : w.cell? ⟨b, o + 1, none⟩ = some v := by simpa using h 1 v rfl
theorem At.c2 {v0 v1 v : Value} {l : List Value} (h : At w b o (v0 :: v1 :: v :: l)) : w.cell? ⟨b, o + 2, none⟩ = some v := by simpa using h 2 v rfl
theorem At.c3 {v0 v1 v2 v : Value} {l : List Value} (h : At w b o (v0 :: v1 :: v2 :: v :: l)) : w.cell? ⟨b, o + 3, none⟩ = some v := by simpa using h 3 v rfl
theorem At.c4 {v0 v1 v2 v3 v : Value} {l : List Value} (h : At w b o (v0 :: v1 :: v2 :: v3 :: v :: l)) : w.cell? ⟨b, o + 4, none⟩ = some v := by simpa using h 4 v rfl
theorem At.d2 {v0 v1 v : Value} {l : List Value} (h : At w b o (v0 :: v1 :: v :: l)) : w.cell? ⟨b, o + 1 + 1, none⟩ = some v := h.c2
theorem At.d3 {v0 v1 v2 v : Value} {l : List Value} (h : At w b o (v0 :: v1 :: v2 :: v :: l)) : w.cell? ⟨b, o + 1 + 1 + 1, none⟩ = some v := h.c3

theorem Vl.keep {α : Type} [Dat α] {x : α} {v : Value} (h : Vl w S x v) (hk : ∀ p : Addr, S p.block → p.block < w.heap.size → w'.cell? p = w.cell? p) (hS : ∀ b, S b → S' b) : Vl w' S' x v := by
  obtain ⟨cs, h1, h2⟩ := h
  exact ⟨cs, Dat.keep hk hS h1, h2⟩
theorem Vl.below {α : Type} [Dat α] {x : α} {v : Value} (h : Vl w S x v) (hb : Below w.heap.size w w') : Vl w' S x v :=
  h.keep (fun _ _ hp => hb.cell hp) (fun _ h => h)
theorem Vl.belowB {α : Type} [Dat α] {x : α} {v : Value} {B : Nat} (h : Vl w S x v) (hb : Below B w w') (hS : ∀ b, S b → b < B) : Vl w' S x v :=
  h.keep (fun _ hs _ => hb.cell (hS _ hs)) (fun _ h => h)
theorem Vl.mono {α : Type} [Dat α] {x : α} {v : Value} (h : Vl w S x v) (hS : ∀ b, S b → S' b) : Vl w S' x v := h.keep (fun _ _ _ => rfl) hS

theorem Els.keep {α : Type} [Dat α] {xs : List α} {A : Option Addr} (h : Els w S xs A) (hk : ∀ p : Addr, S p.block → p.block < w.heap.size → w'.cell? p = w.cell? p) (hS : ∀ b, S b → S' b) : Els w' S' xs A := by
  intro hne
  obtain ⟨b, o, hA, hb, hx⟩ := h hne
  refine ⟨b, o, hA, hS _ hb, fun i x hi => ?_⟩
  obtain ⟨cs, h1, h2⟩ := hx i x hi
  have hlt : b < w.heap.size := h2.lt (by rw [Dat.len h1]; exact Dat.pos)
  exact ⟨cs, Dat.keep hk hS h1, h2.keep fun p hp => hk p (hp ▸ hb) (hp ▸ hlt)⟩
theorem Els.below {α : Type} [Dat α] {xs : List α} {A : Option Addr} (h : Els w S xs A) (hb : Below w.heap.size w w') : Els w' S xs A :=
  h.keep (fun _ _ hp => hb.cell hp) (fun _ h => h)
theorem Els.belowB {α : Type} [Dat α] {xs : List α} {A : Option Addr} {B : Nat} (h : Els w S xs A) (hb : Below B w w') (hS : ∀ b, S b → b < B) : Els w' S xs A :=
  h.keep (fun _ hs _ => hb.cell (hS _ hs)) (fun _ h => h)
theorem Els.at_ {α : Type} [Dat α] {xs : List α} {A : Option Addr} (h : Els w S xs A) {k : Nat} {x : α} (hk : xs[k]? = some x) :
    ∃ b o cs, A = some ⟨b, o, none⟩ ∧ S b ∧ b < w.heap.size ∧ Dat.rd w S x cs ∧ At w b (o + k * Dat.size α) cs := by
  obtain ⟨b, o, hA, hb, hx⟩ := h (by rintro rfl; simp at hk)
  obtain ⟨cs, h1, h2⟩ := hx k x hk
  exact ⟨b, o, cs, hA, hb, h2.lt (by rw [Dat.len h1]; exact Dat.pos), h1, h2⟩
end

/-! ### Instances -/
instance instDatInt : Dat Int where
  size := 1
  wraps := false
  rd _ _ n cs := cs = [.int .i64 n] ∧ I64 n
  len h := by rw [h.1]; rfl
  pos := by decide
  flat _ := rfl
  one h := by rw [h.1]; intro u hu; simp at hu; subst hu; rfl
  keep _ _ h := h
instance instDatBool : Dat Bool where
  size := 1
  wraps := false
  rd _ _ n cs := cs = [.bool n]
  len h := by rw [h]; rfl
  pos := by decide
  flat _ := rfl
  one h := by rw [h]; intro u hu; simp at hu; subst hu; rfl
  keep _ _ h := h
instance instDatList {α : Type} [Dat α] : Dat (List α) where
  size := 1
  wraps := false
  rd w S xs cs := ∃ A c, cs = [.slice A xs.length c] ∧ xs.length ≤ c ∧ c ≤ maxLen ∧ Els w S xs A
  len h := by obtain ⟨A, c, rfl, _⟩ := h; rfl
  pos := by decide
  flat _ := rfl
  one h := by obtain ⟨A, c, rfl, _⟩ := h; intro u hu; simp at hu; subst hu; rfl
  keep hk hS h := by
    obtain ⟨A, c, h1, h2, h3, h4⟩ := h
    exact ⟨A, c, h1, h2, h3, h4.keep hk hS⟩

section
variable {w w' : World} {S S' : Nat → Prop} {b o : Nat}
theorem Vl.slice {α : Type} [Dat α] {xs : List α} {v : Value} (h : Vl w S xs v) : ∃ A c, v = .slice A xs.length c ∧ xs.length ≤ c ∧ c ≤ 9223372036854775807 ∧ Els w S xs A := by
  obtain ⟨cs, ⟨A, c, rfl, h2, h3, h4⟩, hv⟩ := h
  exact ⟨A, c, hv, h2, by simpa [maxLen] using h3, h4⟩
theorem Vl.of_slice {α : Type} [Dat α] {xs : List α} {A : Option Addr} {n c : Nat} (hn : n = xs.length) (h2 : xs.length ≤ c) (h3 : c ≤ 9223372036854775807) (h : Els w S xs A) : Vl w S xs (.slice A n c) :=
  ⟨_, ⟨A, c, rfl, h2, by simpa [maxLen] using h3, h⟩, by subst hn; rfl⟩
theorem Vl.els {α : Type} [Dat α] {w : World} {S : Nat → Prop} {xs : List α} {A : Option Addr} {n c : Nat} (h : Vl w S xs (.slice A n c)) : n = xs.length ∧ xs.length ≤ c ∧ c ≤ 9223372036854775807 ∧ Els w S xs A := by
  obtain ⟨A', c', e, h1, h2, h3⟩ := h.slice
  injection e with e1 e2 e3
  subst e1; subst e2; subst e3
  exact ⟨rfl, h1, h2, h3⟩
theorem Vl.nil {α : Type} [Dat α] : Vl w S ([] : List α) (.slice none 0 0) := Vl.of_slice rfl (by simp) (by omega) (fun h => absurd rfl h)
theorem Vl.int {n : Int} {v : Value} (h : Vl w S n v) : v = .int .i64 n ∧ I64 n := by
  obtain ⟨cs, ⟨rfl, h1⟩, hv⟩ := h
  exact ⟨hv, h1⟩
theorem Vl.of_int {n : Int} (h : I64 n) : Vl w S n (.int .i64 n) := ⟨[.int .i64 n], ⟨rfl, h⟩, rfl⟩
theorem Vl.bool {n : Bool} {v : Value} (h : Vl w S n v) : v = .bool n := by
  obtain ⟨cs, rfl, hv⟩ := h
  exact hv
theorem Vl.of_bool (n : Bool) : Vl w S n (.bool n) := ⟨[.bool n], rfl, rfl⟩
/-- A slice cell among the cells of a struct. -/
theorem rd_slice {α : Type} [Dat α] {xs : List α} {cs : List Value} (h : Dat.rd w S xs cs) : ∃ v, cs = [v] ∧ Vl w S xs v := by
  obtain ⟨A, c, rfl, h2, h3, h4⟩ := h
  exact ⟨_, rfl, _, ⟨A, c, rfl, h2, h3, h4⟩, rfl⟩
theorem rd_of_slice {α : Type} [Dat α] {xs : List α} {v : Value} (h : Vl w S xs v) : Dat.rd w S xs [v] := by
  obtain ⟨cs, ⟨A, c, rfl, h2, h3, h4⟩, hv⟩ := h
  exact ⟨A, c, by rw [hv]; rfl, h2, h3, h4⟩
end

/-! ### Rows that the call owns -/
/-- v is a slice of the call's own (nil, or in a block from base on, at its head) whose elements read as xs; what they lead to lies in S or in other blocks from base on. -/
def OwnT (S : Nat → Prop) (base : Nat) (v : Value) (w : World) (b : Nat) : Prop := (S b ∨ base ≤ b) ∧ v.ownBlock ≠ some b ∧ b < w.heap.size
def Own {α : Type} [Dat α] (w : World) (S : Nat → Prop) (base : Nat) (e : TypeId) (v : Value) (xs : List α) : Prop :=
  ∃ css : List (List Value), w.ownsRow base e (Dat.size α) v xs.length css.flatten ∧ css.length = xs.length ∧
    ∀ (i : Nat) (x : α) (cs : List Value), xs[i]? = some x → css[i]? = some cs → Dat.rd w (OwnT S base v w) x cs

theorem Own.nil {α : Type} [Dat α] (w : World) (S : Nat → Prop) (base : Nat) (e : TypeId) : Own w S base e (.slice none 0 0) ([] : List α) :=
  ⟨[], World.ownsRow_nil w base e _, rfl, fun i x cs h => by simp at h⟩

theorem flat_get {size : Nat} : ∀ (css : List (List Value)) (_ : ∀ cs ∈ css, cs.length = size) (i j : Nat) (cs : List Value) (u : Value), css[i]? = some cs → cs[j]? = some u → css.flatten[i * size + j]? = some u
  | [], _, i, j, cs, u, h, _ => by simp at h
  | c :: css, hl, 0, j, cs, u, h, hu => by
    simp at h
    subst h
    have hj := (List.getElem?_eq_some_iff.1 hu).1
    simp only [List.flatten_cons, Nat.zero_mul, Nat.zero_add]
    rw [List.getElem?_append_left hj]
    exact hu
  | c :: css, hl, i + 1, j, cs, u, h, hu => by
    have hc : c.length = size := hl c (by simp)
    have ih := flat_get css (fun cs hcs => hl cs (by simp [hcs])) i j cs u (by simpa using h) hu
    simp only [List.flatten_cons]
    rw [List.getElem?_append_right (by rw [hc, Nat.add_mul]; omega), hc, Nat.add_mul]
    rw [show i * size + 1 * size + j - size = i * size + j from by omega]
    exact ih

section
variable {w w' : World} {S S' : Nat → Prop} {base : Nat} {e : TypeId} {v : Value} {α : Type} [Dat α] {xs : List α}

theorem Own.block (h : Own w S base e v xs) : ∀ k, v.ownBlock = some k → base ≤ k ∧ k < w.heap.size := by
  obtain ⟨css, h1, _⟩ := h
  exact h1.lt
theorem Own.form (h : Own w S base e v xs) : ∃ A c, v = .slice A xs.length c ∧ xs.length ≤ c ∧ c ≤ 9223372036854775807 ∧ (xs = [] ∨ ∃ g, A = some ⟨g, 0, none⟩ ∧ base ≤ g ∧ g < w.heap.size) := by
  obtain ⟨css, h1, h2, _⟩ := h
  rcases h1.2 with ⟨rfl, hn⟩ | ⟨g, cap, cur, rfl, hg, hh, hnc, hcm, _⟩
  · refine ⟨none, 0, by rw [hn], by omega, by omega, .inl (List.eq_nil_of_length_eq_zero hn)⟩
  · exact ⟨_, cap, rfl, hnc, by simpa [maxLen] using hcm, .inr ⟨g, rfl, hg, (Array.getElem?_eq_some_iff.1 hh).1⟩⟩
/-- An own row reads as a slice. -/
theorem Own.vl (h : Own w S base e v xs) : Vl w (fun b => (S b ∨ base ≤ b) ∧ b < w.heap.size) xs v := by
  obtain ⟨css, h1, h2, h3⟩ := h
  have hcl : ∀ cs ∈ css, cs.length = Dat.size α := by
    intro cs hcs
    obtain ⟨i, hi, rfl⟩ := List.getElem_of_mem hcs
    have hx : xs[i]? = some (xs[i]'(by omega)) := List.getElem?_eq_getElem (by omega)
    exact Dat.len (h3 i _ _ hx (List.getElem?_eq_getElem hi))
  rcases h1.2 with ⟨rfl, hn⟩ | ⟨g, cap, cur, rfl, hg, hh, hnc, hcm, _⟩
  · have : xs = [] := List.eq_nil_of_length_eq_zero hn
    subst this
    exact Vl.nil
  · refine Vl.of_slice rfl hnc (by simpa [maxLen] using hcm) fun _ => ⟨g, 0, rfl, ⟨.inr hg, (Array.getElem?_eq_some_iff.1 hh).1⟩, fun i x hi => ?_⟩
    have hil : i < css.length := by have := (List.getElem?_eq_some_iff.1 hi).1; omega
    have hci : css[i]? = some css[i] := List.getElem?_eq_getElem hil
    refine ⟨css[i], Dat.keep (fun _ _ _ => rfl) (fun b hb => ⟨hb.1, hb.2.2⟩) (h3 i x _ hi hci), fun j u hu => ?_⟩
    have hf := flat_get css hcl i j _ u hci hu
    have hc := h1.cells (g := g) rfl _ _ hf
    have hadd : (⟨g, 0, none⟩ : Addr).add (i * Dat.size α + j) = ⟨g, 0 + i * Dat.size α + j, none⟩ := by
      unfold Addr.add
      split
      · rename_i h0; simp only [Nat.zero_add, h0]
      · simp only [Nat.zero_add]
    rw [← hadd]
    exact hc
/-- An own row's element, for a load. -/
theorem Own.at_ (h : Own w S base e v xs) {k : Nat} {x : α} (hk : xs[k]? = some x) : ∃ g c cs, v = .slice (some ⟨g, 0, none⟩) xs.length c ∧ base ≤ g ∧ g < w.heap.size ∧ Dat.rd w (OwnT S base v w) x cs ∧ At w g (k * Dat.size α) cs := by
  obtain ⟨css, h1, h2, h3⟩ := h
  have hcl : ∀ cs ∈ css, cs.length = Dat.size α := by
    intro cs hcs
    obtain ⟨i, hi, rfl⟩ := List.getElem_of_mem hcs
    have hx : xs[i]? = some (xs[i]'(by omega)) := List.getElem?_eq_getElem (by omega)
    exact Dat.len (h3 i _ _ hx (List.getElem?_eq_getElem hi))
  rcases h1.2 with ⟨rfl, hn⟩ | ⟨g, cap, cur, rfl, hg, hh, hnc, hcm, _⟩
  · have : xs = [] := List.eq_nil_of_length_eq_zero hn
    subst this
    simp at hk
  · have hil : k < css.length := by have := (List.getElem?_eq_some_iff.1 hk).1; omega
    have hci : css[k]? = some css[k] := List.getElem?_eq_getElem hil
    refine ⟨g, cap, css[k], rfl, hg, (Array.getElem?_eq_some_iff.1 hh).1, h3 k x _ hk hci, fun j u hu => ?_⟩
    have hf := flat_get css hcl k j _ u hci hu
    have hc := h1.cells (g := g) rfl _ _ hf
    have hadd : (⟨g, 0, none⟩ : Addr).add (k * Dat.size α + j) = ⟨g, k * Dat.size α + j, none⟩ := by
      unfold Addr.add
      split
      · rename_i h0; simp only [h0]
      · simp only [Nat.zero_add]
    rw [← hadd]
    exact hc
theorem Own.grown {row : Option Nat} (h : Own w S base e v xs) (hg : w.grownBy w' row) (hne : ∀ k, row = some k → v.ownBlock ≠ some k ∧ ¬ (S k ∨ base ≤ k)) : Own w' S base e v xs := by
  obtain ⟨css, h1, h2, h3⟩ := h
  refine ⟨css, h1.kept hg ?_, h2, fun i x cs hi hc => Dat.keep (fun p hp hlt => ?_) (fun b hb => ⟨hb.1, hb.2.1, Nat.lt_of_lt_of_le hb.2.2 hg.size⟩) (h3 i x cs hi hc)⟩
  · cases hv : v.ownBlock with
    | none => exact .inl rfl
    | some k => exact .inr (fun e => (hne k e.symm).1 hv)
  · exact World.cell?_of_block (hg.block p.block hlt (fun e => (hne _ e.symm).2 hp.1))
theorem Own.below {B : Nat} (h : Own w S base e v xs) (hb : Below B w w') (hB : w.heap.size ≤ B) : Own w' S base e v xs := by
  obtain ⟨css, h1, h2, h3⟩ := h
  refine ⟨css, h1.kept (row := none) ⟨hb.os, hb.tape, hb.output, hb.size, fun k hk _ => hb.block k (by omega)⟩ ?_, h2, fun i x cs hi hc => Dat.keep (fun p hp hlt => hb.cell (by omega)) (fun b hb' => ⟨hb'.1, hb'.2.1, Nat.lt_of_lt_of_le hb'.2.2 hb.size⟩) (h3 i x cs hi hc)⟩
  cases hv : v.ownBlock <;> simp
theorem Own.alloc (h : Own w S base e v xs) (o : Obj) : Own (w.alloc o) S base e v xs := h.below ((Below.refl w.heap.size w).alloc (Nat.le_refl _) o) (Nat.le_refl _)
theorem Own.drew (h : Own w S base e v xs) : Own w.drew S base e v xs := h.below ((Below.refl w.heap.size w).drew) (Nat.le_refl _)
/-- A store elsewhere: into a block that no element leads to. -/
theorem Own.setCell (h : Own w S base e v xs) {p : Addr} (hp : v.ownBlock ≠ some p.block) (hS : ¬ (S p.block ∨ base ≤ p.block)) (u : Value) : Own (w.setCell p u) S base e v xs :=
  h.grown (row := some p.block) ⟨rfl, rfl, rfl, by simp [World.setCell], fun k _ hk => Below.heap_setCell _ _ _ _ (fun e => hk (by rw [e]))⟩ (fun k hk => by cases hk; exact ⟨hp, hS⟩)
end

/-- What the program's tables say of the slice type t with elements e. -/
def ElemT (P : Program) (α : Type) [Dat α] (t e : TypeId) (bytes : Nat) : Prop :=
  ∃ i z, P.underlying t = some (.slice e) ∧ P.info? e = some i ∧ i.zero = some z ∧ i.size = Dat.size α ∧ i.bytes = bytes ∧ z.cells.size = Dat.size α

section
variable {P : Program} {w : World} {S : Nat → Prop} {base : Nat} {α : Type} [Dat α]

theorem own_snoc {e : TypeId} {v v' : Value} {w' : World} {xs : List α} {x : α} {css : List (List Value)} {cs : List Value}
    (h2 : css.length = xs.length) (h3 : ∀ (i : Nat) (x : α) (cs : List Value), xs[i]? = some x → css[i]? = some cs → Dat.rd w (OwnT S base v w) x cs)
    (hrd : Dat.rd w (OwnT S base v w) x cs) (hown : w'.ownsRow base e (Dat.size α) v' (xs.length + 1) (css.flatten ++ cs))
    (hg : w.grownBy w' v.ownBlock) (hat : v'.ownBlock = v.ownBlock ∨ v'.ownBlock = some w.heap.size) : Own w' S base e v' (xs ++ [x]) := by
  have hkeep : ∀ {y : α} {ds : List Value}, Dat.rd w (OwnT S base v w) y ds → Dat.rd w' (OwnT S base v' w') y ds := fun hy =>
    Dat.keep (fun p hp hlt => World.cell?_of_block (hg.block p.block hlt (fun e => hp.2.1 e.symm))) (fun b hb => ⟨hb.1, by
      rcases hat with e | e
      · rw [e]; exact hb.2.1
      · rw [e]; intro h; injection h with h; have := hb.2.2; omega, Nat.lt_of_lt_of_le hb.2.2 hg.size⟩) hy
  refine ⟨css ++ [cs], by simpa using hown, by simp [h2], fun i y ds hi hd => ?_⟩
  rcases Nat.lt_or_ge i xs.length with hlt | hge
  · rw [List.getElem?_append_left hlt] at hi
    rw [List.getElem?_append_left (by omega)] at hd
    exact hkeep (h3 i y ds hi hd)
  · have hi' : i = xs.length := by
      have := (List.getElem?_eq_some_iff.1 hi).1
      simp at this; omega
    subst hi'
    simp at hi
    rw [List.getElem?_append_right (by omega)] at hd
    simp [h2] at hd
    subst hi; subst hd
    exact hkeep hrd

/-- append of one element that lies at the head of a block of its own. -/
theorem run_own1 {t ty e : TypeId} {bytes : Nat} (hT : ElemT P α t e bytes) {v : Value} {xs : List α} {x : α} {cs : List Value} {g c : Nat} (hown : Own w S base e v xs)
    (hat : At w g 0 cs) (hrd : Dat.rd w (OwnT S base v w) x cs) (hlen : (xs.length + 1) * bytes ≤ 140737488355328) (hmax : xs.length + 1 ≤ 9223372036854775807) (hbase : base ≤ w.heap.size) :
    ∃ v' w', (Builtin.append_ #[t, t] ty #[v, .slice (some ⟨g, 0, none⟩) 1 c]).run P w = .ok v' w' ∧ Own w' S base e v' (xs ++ [x]) ∧ w.grownBy w' v.ownBlock ∧ (v'.ownBlock = v.ownBlock ∨ v'.ownBlock = some w.heap.size) := by
  obtain ⟨i, z, ht, hi, hz, hsize, hby, hzs⟩ := hT
  obtain ⟨css, h1, h2, h3⟩ := hown
  have hcl := Dat.len hrd
  obtain ⟨v', w', hr, ho, hg, _, h5⟩ := run_append_own_at (P := P) w base t ty e i z (Dat.size α) bytes ht hi hz hsize hby hzs Dat.pos v xs.length css.flatten h1 ⟨g, 0, none⟩ 1 c cs (by omega)
    (by intro j u hu; have h := hat j u hu; have hadd : (⟨g, 0, none⟩ : Addr).add j = ⟨g, 0 + j, none⟩ := by unfold Addr.add; split <;> simp_all
        rw [hadd]; exact h) (Dat.one hrd) (by simpa [maxLen] using hmax) hlen hbase
  exact ⟨v', w', hr, own_snoc h2 h3 hrd ho hg h5, hg, h5⟩
end

section
variable {P : Program} (w : World) {S : Nat → Prop} {base : Nat} {α : Type} [Dat α]
theorem wp_own1 {o : Oper} {a : Act} {K : Act → World → Prop} {Q : Exit → Act → World → Prop} (s xo : Operand) {t e : TypeId} {bytes : Nat} (hT : ElemT P α t e bytes)
    (ho : o.op = .call { callee := .builtin .append, args := #[s, xo], argTypes := #[t, t] })
    {v : Value} {xs : List α} (hs : a.eval s = v) (hown : Own w S base e v xs) (x : α) (cs : List Value) {g c : Nat} (hx : a.eval xo = .slice (some ⟨g, 0, none⟩) 1 c)
    (hat : At w g 0 cs) (hrd : Dat.rd w (OwnT S base v w) x cs) (hlen : (xs.length + 1) * bytes ≤ 140737488355328) (hmax : xs.length + 1 ≤ 9223372036854775807) (hbase : base ≤ w.heap.size)
    (h : ∀ v' w', Own w' S base e v' (xs ++ [x]) → w.grownBy w' v.ownBlock → (v'.ownBlock = v.ownBlock ∨ v'.ownBlock = some w.heap.size) → K (a.put o.dst v') w') : o.wp P a w K Q := by
  obtain ⟨v', w', hrun, h2, h3, h4⟩ := run_own1 (ty := o.type) (c := c) hT hown hat hrd hlen hmax hbase
  unfold Oper.wp execOp
  simp only [ho, resolve, invoke, builtin, Sem.run_bind, Sem.run_pure, Result.andThen_ok, List.map_toArray, List.map_cons, List.map_nil, hs, hx, hrun]
  exact h v' w' h2 h3 h4
theorem wpList_own1 {ops : Array Oper} {rest : List Oper} {o : Oper} {a : Act} {Q : Exit → Act → World → Prop} (hgd : o.guard = none) (s xo : Operand) {t e : TypeId} {bytes : Nat} (hT : ElemT P α t e bytes)
    (ho : o.op = .call { callee := .builtin .append, args := #[s, xo], argTypes := #[t, t] })
    {v : Value} {xs : List α} (hs : a.eval s = v) (hown : Own w S base e v xs) (x : α) (cs : List Value) {g c : Nat} (hx : a.eval xo = .slice (some ⟨g, 0, none⟩) 1 c)
    (hat : At w g 0 cs) (hrd : Dat.rd w (OwnT S base v w) x cs) (hlen : (xs.length + 1) * bytes ≤ 140737488355328) (hmax : xs.length + 1 ≤ 9223372036854775807) (hbase : base ≤ w.heap.size)
    (h : ∀ v' w', Own w' S base e v' (xs ++ [x]) → w.grownBy w' v.ownBlock → (v'.ownBlock = v.ownBlock ∨ v'.ownBlock = some w.heap.size) → wpList P ops Q rest (a.put o.dst v') w') : wpList P ops Q (o :: rest) a w :=
  wpList_plain hgd fun _ hK => wp_own1 w s xo hT ho hs hown x cs hx hat hrd hlen hmax hbase fun v' w' h2 h3 h4 => hK _ _ (h v' w' h2 h3 h4)
theorem step_own1 {ops : Array Oper} {o : Oper} {a : Act} {K : Act → World → Prop} {Q : Exit → Act → World → Prop} {E : Prop} (hgd : o.guard = none) (s xo : Operand) {t e : TypeId} {bytes : Nat} (hT : ElemT P α t e bytes)
    (ho : o.op = .call { callee := .builtin .append, args := #[s, xo], argTypes := #[t, t] })
    {v : Value} {xs : List α} (hs : a.eval s = v) (hown : Own w S base e v xs) (x : α) (cs : List Value) {g c : Nat} (hx : a.eval xo = .slice (some ⟨g, 0, none⟩) 1 c)
    (hat : At w g 0 cs) (hrd : Dat.rd w (OwnT S base v w) x cs) (hlen : (xs.length + 1) * bytes ≤ 140737488355328) (hmax : xs.length + 1 ≤ 9223372036854775807) (hbase : base ≤ w.heap.size)
    (h : ∀ v' w', Own w' S base e v' (xs ++ [x]) → w.grownBy w' v.ownBlock → (v'.ownBlock = v.ownBlock ∨ v'.ownBlock = some w.heap.size) → K (a.put o.dst v') w') :
    if Region.wanted o (yielded ops a.tmps) = true then Oper.wp P o a w K Q else E := by
  have hw : Region.wanted o (yielded ops a.tmps) = true := by simp [Region.wanted, hgd]
  rw [if_pos hw]
  exact wp_own1 w s xo hT ho hs hown x cs hx hat hrd hlen hmax hbase h
end

theorem bcell {W w1 : World} {n : Nat} (hb : Below n W w1) : (∀ b o, b < n → w1.cell? ⟨b, o, none⟩ = W.cell? ⟨b, o, none⟩) ∧ (∀ b o, b < n → w1.frozen? ⟨b, o, none⟩ = W.frozen? ⟨b, o, none⟩) :=
  ⟨fun b o h => hb.cell (p := ⟨b, o, none⟩) h, fun b o h => hb.frozen (p := ⟨b, o, none⟩) h⟩
theorem bdrewN {B n : Nat} {a w : World} (h : Below B a w) : Below B a (w.drewN n) := ⟨h.os, h.tape, h.output, h.size, h.block⟩
/-- A block that is known whole. -/
def Blk' (w : World) (g : Nat) (t : TypeId) (cs : Array Value) : Prop := w.heap[g]? = some (.cells cs t (0, 0))
section
variable {w w' : World} {g : Nat} {t : TypeId} {cs : Array Value}
theorem Blk'.lt (h : Blk' w g t cs) : g < w.heap.size := by
  rcases Nat.lt_or_ge g w.heap.size with hlt | hge
  · exact hlt
  · unfold Blk' at h; rw [Array.getElem?_eq_none hge] at h; cases h
theorem Blk'.cell (h : Blk' w g t cs) (i : Nat) : w.cell? ⟨g, i, none⟩ = cs[i]? := cell_of_row w g i cs t (0, 0) h
theorem Blk'.frozen (h : Blk' w g t cs) (i : Nat) : w.frozen? ⟨g, i, none⟩ = false := by
  unfold Blk' at h
  simp [World.frozen?, h]
theorem Blk'.new (w : World) (t : TypeId) (cs : Array Value) : Blk' (w.alloc (.cells cs t)) w.heap.size t cs := heap_alloc_new w _
theorem Blk'.new' (w : World) (t : TypeId) (cs : Array Value) (h : g = w.heap.size) : Blk' (w.alloc (.cells cs t)) g t cs := by subst h; exact heap_alloc_new w _
theorem Blk'.drew (h : Blk' w g t cs) : Blk' w.drew g t cs := h
theorem Blk'.drewN (h : Blk' w g t cs) (n : Nat) : Blk' (w.drewN n) g t cs := h
theorem Blk'.alloc (h : Blk' w g t cs) (o : Obj) : Blk' (w.alloc o) g t cs := (Below.heap_alloc w o g h.lt).trans h
theorem Blk'.set_ (h : Blk' w g t cs) (i : Nat) (u : Value) : Blk' (w.setCell ⟨g, i, none⟩ u) g t (cs.setIfInBounds i u) := by
  unfold Blk' at h ⊢
  simp [World.setCell, Array.getElem?_modify, h]
theorem Blk'.far (h : Blk' w g t cs) {p : Addr} (hp : g ≠ p.block) (u : Value) : Blk' (w.setCell p u) g t cs := (Below.heap_setCell w p u g hp).trans h
theorem Blk'.below {B : Nat} (h : Blk' w g t cs) (hb : Below B w w') (hg : g < B) : Blk' w' g t cs := (hb.block g hg).trans h
theorem Blk'.grown {row : Option Nat} (h : Blk' w g t cs) (hb : w.grownBy w' row) (hg : some g ≠ row) : Blk' w' g t cs := (hb.block g h.lt hg).trans h
theorem only_drew {row : Option Nat} {a : World} (h : a.grownBy w row) : a.grownBy w.drew row := ⟨h.os, h.tape, h.output, h.size, h.block⟩
theorem only_drewN {row : Option Nat} {a : World} (h : a.grownBy w row) (n : Nat) : a.grownBy (w.drewN n) row := ⟨h.os, h.tape, h.output, h.size, h.block⟩
theorem only_alloc {row : Option Nat} {a : World} (h : a.grownBy w row) (o : Obj) : a.grownBy (w.alloc o) row :=
  ⟨h.os, h.tape, h.output, Nat.le_trans h.size (by simp), fun i hi hne => (Below.heap_alloc w o i (Nat.lt_of_lt_of_le hi h.size)).trans (h.block i hi hne)⟩
theorem only_setCell {row : Option Nat} {a : World} (h : a.grownBy w row) {p : Addr} (hp : row = some p.block ∨ a.heap.size ≤ p.block) (u : Value) : a.grownBy (w.setCell p u) row :=
  ⟨h.os, h.tape, h.output, by simpa [World.setCell] using h.size, fun i hi hne => (Below.heap_setCell w p u i (by
    rintro rfl
    rcases hp with hp | hp
    · exact hne (by rw [hp])
    · omega)).trans (h.block i hi hne)⟩
/-- A later step that turns only blocks that came after a, or the row. -/
theorem only_then {row row' : Option Nat} {a : World} (h : a.grownBy w row) (k : w.grownBy w' row') (hr : row' = row ∨ ∀ i, row' = some i → a.heap.size ≤ i) : a.grownBy w' row :=
  ⟨k.os.trans h.os, k.tape.trans h.tape, k.output.trans h.output, Nat.le_trans h.size k.size, fun i hi hne => (k.block i (Nat.lt_of_lt_of_le hi h.size) (by
    rcases hr with rfl | hr
    · exact hne
    · intro e; have := hr i e.symm; omega)).trans (h.block i hi hne)⟩
theorem only_below {row : Option Nat} {a : World} {B : Nat} (h : a.grownBy w row) (k : Below B w w') (hB : a.heap.size ≤ B) : a.grownBy w' row :=
  ⟨k.os.trans h.os, k.tape.trans h.tape, k.output.trans h.output, Nat.le_trans h.size k.size, fun i hi hne => (k.block i (by omega)).trans (h.block i hi hne)⟩
end
theorem bundrew {B : Nat} {a w : World} (h : Below B a.drew w) : Below B a w := ⟨h.os, h.tape, h.output, h.size, h.block⟩
theorem bundrewN {B n : Nat} {a w : World} (h : Below B (a.drewN n) w) : Below B a w := ⟨h.os, h.tape, h.output, h.size, h.block⟩
theorem bthen {B n : Nat} {a w w' : World} (h : Below B a w) (k : Below n w w') (hn : B ≤ n) : Below B a w' := h.trans (k.mono hn)
/-- What a grownBy leaves of Below. -/
theorem bgrown {B : Nat} {a w w' : World} {v : Value} {S : Nat → Prop} {base : Nat} {e : TypeId} {α : Type} [Dat α] {xs : List α} (h : Below B a w) (hg : w.grownBy w' v.ownBlock) (hown : Own w S base e v xs) (hB : B ≤ base) (hs : B ≤ w.heap.size) : Below B a w' :=
  h.grown hg hs (fun k hk => Nat.le_trans hB (hown.block k hk).1)
end Go.Proofs.YtjdojogjogenkaaDoor

/- The program's data as plain Lean data, and how they read in memory. -/
namespace Go.Proofs.YtjdojogjogenkaaDoor
open Go.RowKit

structure Sym where
  term : Bool
  n : Int
  deriving DecidableEq, Repr
structure Rule where
  left : Int
  right : List Sym
  deriving DecidableEq, Repr
structure Gram where
  terms : Int
  nons : Int
  start : Int
  rules : List Rule
  deriving DecidableEq, Repr
inductive Tree where
  | mk (rule term : Int) (kids : List Tree)
def Tree.rule : Tree → Int | ⟨r, _, _⟩ => r
def Tree.term : Tree → Int | ⟨_, t, _⟩ => t
def Tree.kids : Tree → List Tree | ⟨_, _, ks⟩ => ks

instance instDatSym : Dat Sym where
  size := 2
  wraps := true
  rd _ _ s cs := cs = [.bool s.term, .int .i64 s.n] ∧ I64 s.n
  len h := by rw [h.1]; rfl
  pos := by decide
  flat h := by simp at h
  one h := by rw [h.1]; intro u hu; simp at hu; rcases hu with rfl | rfl <;> rfl
  keep _ _ h := h
instance instDatRule : Dat Rule where
  size := 2
  wraps := true
  rd w S r cs := ∃ v, cs = [.int .i64 r.left, v] ∧ I64 r.left ∧ Vl w S r.right v
  len h := by obtain ⟨v, rfl, _⟩ := h; rfl
  pos := by decide
  flat h := by simp at h
  one h := by
    obtain ⟨v, rfl, _, hv⟩ := h
    obtain ⟨A, c, rfl, _⟩ := hv.slice
    intro u hu; simp at hu; rcases hu with rfl | rfl <;> rfl
  keep hk hS h := by obtain ⟨v, h1, h2, h3⟩ := h; exact ⟨v, h1, h2, h3.keep hk hS⟩
instance instDatGram : Dat Gram where
  size := 4
  wraps := true
  rd w S g cs := ∃ v, cs = [.int .i64 g.terms, .int .i64 g.nons, .int .i64 g.start, v] ∧ I64 g.terms ∧ I64 g.nons ∧ I64 g.start ∧ Vl w S g.rules v
  len h := by obtain ⟨v, rfl, _⟩ := h; rfl
  pos := by decide
  flat h := by simp at h
  one h := by
    obtain ⟨v, rfl, _, _, _, hv⟩ := h
    obtain ⟨A, c, rfl, _⟩ := hv.slice
    intro u hu; simp at hu; rcases hu with rfl | rfl | rfl | rfl <;> rfl
  keep hk hS h := by obtain ⟨v, h1, h2, h3, h4, h5⟩ := h; exact ⟨v, h1, h2, h3, h4, h5.keep hk hS⟩

/-! Trees: the reading by recursion. -/
mutual
def rdT (w : World) (S : Nat → Prop) : Tree → List Value → Prop
  | ⟨r, t, ks⟩, cs => I64 r ∧ I64 t ∧ ∃ A c, cs = [.int .i64 r, .int .i64 t, .slice A ks.length c] ∧ ks.length ≤ c ∧ c ≤ maxLen ∧ (ks ≠ [] → ∃ b o, A = some ⟨b, o, none⟩ ∧ S b ∧ rdTs w S ks b o)
def rdTs (w : World) (S : Nat → Prop) : List Tree → Nat → Nat → Prop
  | [], _, _ => True
  | k :: ks, b, o => (∃ cs, rdT w S k cs ∧ At w b o cs) ∧ rdTs w S ks b (o + 3)
end
theorem rdT_len {w : World} {S : Nat → Prop} {t : Tree} {cs : List Value} (h : rdT w S t cs) : cs.length = 3 := by
  cases t with
  | mk r t ks => unfold rdT at h; obtain ⟨_, _, A, c, rfl, _⟩ := h; rfl
theorem rdTs_iff {w : World} {S : Nat → Prop} : ∀ (ks : List Tree) (b o : Nat), rdTs w S ks b o ↔ ∀ (i : Nat) (x : Tree), ks[i]? = some x → ∃ cs, rdT w S x cs ∧ At w b (o + i * 3) cs
  | [], b, o => by simp [rdTs]
  | k :: ks, b, o => by
    rw [rdTs, rdTs_iff ks]
    constructor
    · rintro ⟨h1, h2⟩ i x hi
      match i with
      | 0 => simp at hi; subst hi; simpa using h1
      | i + 1 =>
        have := h2 i x (by simpa using hi)
        rw [show o + (i + 1) * 3 = o + 3 + i * 3 from by omega]
        exact this
    · intro h
      refine ⟨by simpa using h 0 k rfl, fun i x hi => ?_⟩
      have := h (i + 1) x (by simpa using hi)
      rw [show o + 3 + i * 3 = o + (i + 1) * 3 from by omega]
      exact this
mutual
theorem rdT_keep {w w' : World} {S S' : Nat → Prop} (hk : ∀ p : Addr, S p.block → p.block < w.heap.size → w'.cell? p = w.cell? p) (hS : ∀ b, S b → S' b) : ∀ (t : Tree) (cs : List Value), rdT w S t cs → rdT w' S' t cs
  | ⟨r, t, ks⟩, cs, h => by
    unfold rdT at h ⊢
    obtain ⟨h1, h2, A, c, h3, h4, h5, h6⟩ := h
    refine ⟨h1, h2, A, c, h3, h4, h5, fun hne => ?_⟩
    obtain ⟨b, o, hA, hb, hks⟩ := h6 hne
    exact ⟨b, o, hA, hS _ hb, rdTs_keep hk hS ks b o hb hks⟩
theorem rdTs_keep {w w' : World} {S S' : Nat → Prop} (hk : ∀ p : Addr, S p.block → p.block < w.heap.size → w'.cell? p = w.cell? p) (hS : ∀ b, S b → S' b) : ∀ (ks : List Tree) (b o : Nat), S b → rdTs w S ks b o → rdTs w' S' ks b o
  | [], _, _, _, _ => by simp [rdTs]
  | k :: ks, b, o, hb, h => by
    rw [rdTs] at h ⊢
    obtain ⟨⟨cs, h1, h2⟩, h3⟩ := h
    have hlt : b < w.heap.size := h2.lt (by rw [rdT_len h1]; decide)
    exact ⟨⟨cs, rdT_keep hk hS k cs h1, h2.keep fun p hp => hk p (hp ▸ hb) (hp ▸ hlt)⟩, rdTs_keep hk hS ks b (o + 3) hb h3⟩
end
instance instDatTree : Dat Tree where
  size := 3
  wraps := true
  rd := rdT
  len := rdT_len
  pos := by decide
  flat h := by simp at h
  one {w S t cs} h := by
    cases t with
    | mk r t ks =>
      unfold rdT at h; obtain ⟨_, _, A, c, rfl, _⟩ := h
      intro u hu; simp at hu; rcases hu with rfl | rfl | rfl <;> rfl
  keep hk hS h := rdT_keep hk hS _ _ h
theorem rd_tree {w : World} {S : Nat → Prop} {t : Tree} {cs : List Value} : Dat.rd w S t cs ↔ ∃ v, cs = [.int .i64 t.rule, .int .i64 t.term, v] ∧ I64 t.rule ∧ I64 t.term ∧ Vl w S t.kids v := by
  cases t with
  | mk r t ks =>
    show rdT w S _ cs ↔ _
    unfold rdT
    constructor
    · rintro ⟨h1, h2, A, c, rfl, h4, h5, h6⟩
      refine ⟨_, rfl, h1, h2, Vl.of_slice rfl h4 (by simpa [maxLen] using h5) fun hne => ?_⟩
      obtain ⟨b, o, hA, hb, hks⟩ := h6 hne
      exact ⟨b, o, hA, hb, (rdTs_iff _ _ _).1 hks⟩
    · rintro ⟨v, rfl, h1, h2, hv⟩
      obtain ⟨A, c, rfl, h4, h5, h6⟩ := hv.slice
      refine ⟨h1, h2, A, c, rfl, h4, by simpa [maxLen] using h5, fun hne => ?_⟩
      obtain ⟨b, o, hA, hb, hks⟩ := h6 hne
      exact ⟨b, o, hA, hb, (rdTs_iff _ _ _).2 hks⟩

section
variable {w : World} {S : Nat → Prop}
theorem Vl.sym {s : Sym} {v : Value} (h : Vl w S s v) : v = .agg #[.bool s.term, .int .i64 s.n] ∧ I64 s.n := by
  obtain ⟨cs, ⟨rfl, h1⟩, hv⟩ := h
  exact ⟨hv, h1⟩
theorem Vl.of_sym {s : Sym} (h : I64 s.n) : Vl w S s (.agg #[.bool s.term, .int .i64 s.n]) := ⟨_, ⟨rfl, h⟩, rfl⟩
theorem Vl.rule {r : Rule} {v : Value} (h : Vl w S r v) : ∃ s, v = .agg #[.int .i64 r.left, s] ∧ I64 r.left ∧ Vl w S r.right s := by
  obtain ⟨cs, ⟨s, rfl, h1, h2⟩, hv⟩ := h
  exact ⟨s, hv, h1, h2⟩
theorem Vl.of_rule {r : Rule} {s : Value} (h1 : I64 r.left) (h2 : Vl w S r.right s) : Vl w S r (.agg #[.int .i64 r.left, s]) := ⟨_, ⟨s, rfl, h1, h2⟩, rfl⟩
theorem Vl.gram {g : Gram} {v : Value} (h : Vl w S g v) : ∃ s, v = .agg #[.int .i64 g.terms, .int .i64 g.nons, .int .i64 g.start, s] ∧ I64 g.terms ∧ I64 g.nons ∧ I64 g.start ∧ Vl w S g.rules s := by
  obtain ⟨cs, ⟨s, rfl, h1, h2, h3, h4⟩, hv⟩ := h
  exact ⟨s, hv, h1, h2, h3, h4⟩
theorem Vl.of_gram {g : Gram} {s : Value} (h1 : I64 g.terms) (h2 : I64 g.nons) (h3 : I64 g.start) (h4 : Vl w S g.rules s) : Vl w S g (.agg #[.int .i64 g.terms, .int .i64 g.nons, .int .i64 g.start, s]) := ⟨_, ⟨s, rfl, h1, h2, h3, h4⟩, rfl⟩
theorem Vl.tree {t : Tree} {v : Value} (h : Vl w S t v) : ∃ s, v = .agg #[.int .i64 t.rule, .int .i64 t.term, s] ∧ I64 t.rule ∧ I64 t.term ∧ Vl w S t.kids s := by
  obtain ⟨cs, hr, hv⟩ := h
  obtain ⟨s, rfl, h1, h2, h3⟩ := rd_tree.1 hr
  exact ⟨s, hv, h1, h2, h3⟩
theorem Vl.of_tree {t : Tree} {s : Value} (h1 : I64 t.rule) (h2 : I64 t.term) (h3 : Vl w S t.kids s) : Vl w S t (.agg #[.int .i64 t.rule, .int .i64 t.term, s]) := ⟨_, rd_tree.2 ⟨s, rfl, h1, h2, h3⟩, rfl⟩
end

/-! The elements of a slice, for a walk: the cells as the walk spells their addresses. -/
section
variable {w : World} {S : Nat → Prop} {A : Option Addr} {k : Nat}
theorem Els.int {xs : List Int} {x : Int} (h : Els w S xs A) (hk : xs[k]? = some x) : ∃ b o, A = some ⟨b, o, none⟩ ∧ S b ∧ b < w.heap.size ∧ I64 x ∧ w.cell? ⟨b, o + k, none⟩ = some (.int .i64 x) := by
  obtain ⟨b, o, cs, hA, hS, hb, ⟨rfl, h1⟩, hc⟩ := h.at_ hk
  exact ⟨b, o, hA, hS, hb, h1, by have h := hc.c0; rwa [show o + k * Dat.size Int = o + k from by show o + k * 1 = _; omega] at h⟩
theorem Els.bool {xs : List Bool} {x : Bool} (h : Els w S xs A) (hk : xs[k]? = some x) : ∃ b o, A = some ⟨b, o, none⟩ ∧ S b ∧ b < w.heap.size ∧ w.cell? ⟨b, o + k, none⟩ = some (.bool x) := by
  obtain ⟨b, o, cs, hA, hS, hb, rfl, hc⟩ := h.at_ hk
  exact ⟨b, o, hA, hS, hb, by have h := hc.c0; rwa [show o + k * Dat.size Bool = o + k from by show o + k * 1 = _; omega] at h⟩
theorem Els.list {α : Type} [Dat α] {xs : List (List α)} {x : List α} (h : Els w S xs A) (hk : xs[k]? = some x) : ∃ b o A' c, A = some ⟨b, o, none⟩ ∧ S b ∧ b < w.heap.size ∧ x.length ≤ c ∧ c ≤ 9223372036854775807 ∧ Els w S x A' ∧ w.cell? ⟨b, o + k, none⟩ = some (.slice A' x.length c) := by
  obtain ⟨b, o, cs, hA, hS, hb, ⟨A', c, rfl, h2, h3, h4⟩, hc⟩ := h.at_ hk
  exact ⟨b, o, A', c, hA, hS, hb, h2, by simpa [maxLen] using h3, h4, by have h := hc.c0; rwa [show o + k * Dat.size (List α) = o + k from by show o + k * 1 = _; omega] at h⟩
theorem Els.sym {xs : List Sym} {x : Sym} (h : Els w S xs A) (hk : xs[k]? = some x) :
    ∃ b o, A = some ⟨b, o, none⟩ ∧ S b ∧ b < w.heap.size ∧ I64 x.n ∧ w.cell? ⟨b, o + k * 2, none⟩ = some (.bool x.term) ∧ w.cell? ⟨b, o + k * 2 + 1, none⟩ = some (.int .i64 x.n) := by
  obtain ⟨b, o, cs, hA, hS, hb, ⟨rfl, h1⟩, hc⟩ := h.at_ hk
  exact ⟨b, o, hA, hS, hb, h1, hc.c0, hc.c1⟩
theorem Els.rule {xs : List Rule} {x : Rule} (h : Els w S xs A) (hk : xs[k]? = some x) :
    ∃ b o A' c, A = some ⟨b, o, none⟩ ∧ S b ∧ b < w.heap.size ∧ I64 x.left ∧ x.right.length ≤ c ∧ c ≤ 9223372036854775807 ∧ Els w S x.right A' ∧ w.cell? ⟨b, o + k * 2, none⟩ = some (.int .i64 x.left) ∧ w.cell? ⟨b, o + k * 2 + 1, none⟩ = some (.slice A' x.right.length c) := by
  obtain ⟨b, o, cs, hA, hS, hb, ⟨v, rfl, h1, hv⟩, hc⟩ := h.at_ hk
  obtain ⟨A', c, rfl, h2, h3, h4⟩ := hv.slice
  exact ⟨b, o, A', c, hA, hS, hb, h1, h2, h3, h4, hc.c0, hc.c1⟩
theorem Els.tree {xs : List Tree} {x : Tree} (h : Els w S xs A) (hk : xs[k]? = some x) :
    ∃ b o A' c, A = some ⟨b, o, none⟩ ∧ S b ∧ b < w.heap.size ∧ I64 x.rule ∧ I64 x.term ∧ x.kids.length ≤ c ∧ c ≤ 9223372036854775807 ∧ Els w S x.kids A' ∧ w.cell? ⟨b, o + k * 3, none⟩ = some (.int .i64 x.rule) ∧ w.cell? ⟨b, o + k * 3 + 1, none⟩ = some (.int .i64 x.term) ∧ w.cell? ⟨b, o + k * 3 + 1 + 1, none⟩ = some (.slice A' x.kids.length c) := by
  obtain ⟨b, o, cs, hA, hS, hb, hr, hc⟩ := h.at_ hk
  obtain ⟨v, rfl, h1, h1', hv⟩ := rd_tree.1 hr
  obtain ⟨A', c, rfl, h2, h3, h4⟩ := hv.slice
  exact ⟨b, o, A', c, hA, hS, hb, h1, h1', h2, h3, h4, hc.c0, hc.c1, hc.d2⟩
end
end Go.Proofs.YtjdojogjogenkaaDoor

/- From the form's reading of an argument to plain data: what a reading gives, type by type, and how much of the bound it takes. -/
namespace Go.Proofs.YtjdojogjogenkaaDoor
open Go.RowKit Go.ChangeShapes Go.WideShapes Go.Deep

class Blk (α : Type) where
  blk : α → Nat
instance instBlkInt : Blk Int := ⟨fun _ => 1⟩
instance instBlkBool : Blk Bool := ⟨fun _ => 1⟩
def blkAll {α : Type} [Blk α] : List α → Nat
  | [] => 0
  | x :: xs => Blk.blk x + blkAll xs
instance instBlkList {α : Type} [Blk α] : Blk (List α) := ⟨fun l => blkAll l + 1⟩
instance instBlkSym : Blk Sym := ⟨fun _ => 3⟩
instance instBlkRule : Blk Rule := ⟨fun r => 2 + Blk.blk r.right⟩
instance instBlkGram : Blk Gram := ⟨fun g => 4 + Blk.blk g.rules⟩
mutual
def blkTree : Tree → Nat
  | ⟨_, _, ks⟩ => 3 + blkTrees ks + 1
def blkTrees : List Tree → Nat
  | [] => 0
  | k :: ks => blkTree k + blkTrees ks
end
instance instBlkTree : Blk Tree := ⟨blkTree⟩
theorem blkTrees_eq : ∀ ks : List Tree, blkTrees ks = blkAll ks
  | [] => rfl
  | k :: ks => by rw [blkTrees, blkAll, blkTrees_eq ks]; rfl

def OldS (w : World) (b : Nat) : Prop := b < w.heap.size
/-- What the type t reads as. -/
def Opens (P : Program) (α : Type) [Dat α] [Blk α] (t : TypeId) : Prop :=
  ∀ {H : Type} (enc : TypeId × Value → H) (w : World) (base : Nat) (spare : Nat → Bool) (held : Bool) (fuel : Nat) (cs : List Value) (y : DataW H × List MemPlace),
    DataW.trod enc P w base spare held fuel t cs = some y → ∃ x : α, Dat.rd w (OldS w) x cs ∧ Blk.blk x ≤ Rows.uptoBulk y.1

theorem i64_of_wf {n : Int} (h : (Lit.int .i64 n).wf = true) : I64 n := by
  simpa [Lit.wf, IntKind.min, IntKind.max, IntKind.signed, IntKind.bits, I64] using h

section
variable {P : Program}
theorem opens_int {t : TypeId} (ht : P.underlying t = some (.int .i64)) : Opens P Int t := by
  intro H enc w base spare held fuel cs y h
  obtain ⟨n, rfl, rfl, hw⟩ := DataW.trod_int ht h
  exact ⟨n, ⟨rfl, i64_of_wf hw⟩, by simp [Rows.uptoBulk, Blk.blk]⟩
theorem opens_bool {t : TypeId} (ht : P.underlying t = some .bool) : Opens P Bool t := by
  intro H enc w base spare held fuel cs y h
  obtain ⟨n, rfl, rfl⟩ := DataW.trod_bool ht h
  exact ⟨n, rfl, by simp [Rows.uptoBulk, Blk.blk]⟩

theorem list_of_lt {α : Type} {R : Nat → α → Prop} : ∀ (n : Nat), (∀ i, i < n → ∃ x, R i x) → ∃ xs : List α, xs.length = n ∧ ∀ (i : Nat) (x : α), xs[i]? = some x → R i x
  | 0, _ => ⟨[], rfl, by simp⟩
  | n + 1, h => by
    obtain ⟨xs, hl, hx⟩ := list_of_lt n (fun i hi => h i (by omega))
    obtain ⟨x, hr⟩ := h n (by omega)
    refine ⟨xs ++ [x], by simp [hl], fun i y hi => ?_⟩
    rcases Nat.lt_or_ge i xs.length with h1 | h1
    · rw [List.getElem?_append_left h1] at hi; exact hx i y hi
    · have h2 : i = n := by have := (List.getElem?_eq_some_iff.1 hi).1; simp at this; omega
      subst h2
      rw [List.getElem?_append_right h1] at hi
      simp [hl] at hi
      subst hi; exact hr
theorem bulkAll_range {H : Type} {α : Type} [Blk α] (D : Nat → DataW H) : ∀ (xs : List α) (s : Nat), (∀ (i : Nat) (x : α), xs[i]? = some x → Blk.blk x ≤ Rows.uptoBulk (D (s + i))) → blkAll xs ≤ Rows.uptoBulkAll ((List.range' s xs.length).map D)
  | [], _, _ => by simp [blkAll]
  | x :: xs, s, h => by
    have h0 := h 0 x rfl
    have ih := bulkAll_range D xs (s + 1) (fun i y hi => by have := h (i + 1) y (by simpa using hi); rwa [show s + (i + 1) = s + 1 + i from by omega] at this)
    simp only [List.length_cons, List.range'_succ, List.map_cons, blkAll, Rows.uptoBulkAll]
    simp only [Nat.add_zero] at h0
    omega
theorem addr_add {b o n : Nat} : (⟨b, o, none⟩ : Addr).add n = ⟨b, o + n, none⟩ := by unfold Addr.add; split <;> simp_all
theorem els_of_cells {α : Type} [Dat α] {w : World} {base : Nat} {a : Addr} {len : Nat} {xs : List α} (_hl : xs.length = len)
    (h : ∀ (i : Nat) (x : α), xs[i]? = some x → ∃ cs, w.cells? base (a.add (i * Dat.size α)) (Dat.size α) = some cs ∧ Dat.rd w (OldS w) x cs) : Els w (OldS w) xs (some a) := by
  intro hne
  obtain ⟨x0, hx0⟩ : ∃ x, xs[0]? = some x := ⟨_, List.getElem?_eq_getElem (List.length_pos_iff.2 hne)⟩
  have hcell : ∀ (i : Nat) (x : α), xs[i]? = some x → ∃ cs, Dat.rd w (OldS w) x cs ∧ ∀ j u, cs[j]? = some u → w.cell? ((a.add (i * Dat.size α)).add j) = some u := by
    intro i x hi
    obtain ⟨cs, h1, h2⟩ := h i x hi
    obtain ⟨_, hcl, hat⟩ := World.cells?_some h1
    exact ⟨cs, h2, fun j u hu => (hat j (by have := (List.getElem?_eq_some_iff.1 hu).1; rwa [Dat.len h2] at this)).trans hu⟩
  obtain ⟨cs0, h1, h2⟩ := hcell 0 x0 hx0
  have hp : 0 < cs0.length := by rw [Dat.len h1]; exact Dat.pos
  have hc0 := h2 0 cs0[0] (List.getElem?_eq_getElem hp)
  have ha0 : (a.add (0 * Dat.size α)).add 0 = a := by simp [Addr.add]
  rw [ha0] at hc0
  obtain ⟨b, o, spot⟩ := a
  have hspot : spot = none := by simpa using World.cell?_spot hc0
  subst hspot
  have hb : b < w.heap.size := World.block_lt_of_cell? w _ hc0
  refine ⟨b, o, rfl, hb, fun i x hi => ?_⟩
  obtain ⟨cs, h3, h4⟩ := hcell i x hi
  exact ⟨cs, h3, fun j u hu => by have := h4 j u hu; rwa [addr_add, addr_add] at this⟩
theorem opens_slice {α : Type} [Dat α] [Blk α] {t e : TypeId} (ht : P.underlying t = some (.slice e)) (hC : P.cellsOf e = Dat.size α) (he : Opens P α e) : Opens P (List α) t := by
  intro H enc w base spare held fuel cs y h
  rcases open_slice ht h with ⟨rfl, rfl⟩ | ⟨a, len, cap, m, n, D, Pl, rfl, hb, hl, hm, hmm, rfl, hi⟩
  · exact ⟨[], ⟨none, 0, rfl, by simp, by simp, fun h => absurd rfl h⟩, by simp [Rows.uptoBulk, Blk.blk, blkAll]⟩
  · have hlm : len ≤ m := by rw [hmm]; split <;> omega
    obtain ⟨xs, hxl, hx⟩ := list_of_lt (R := fun i (x : α) => (∃ cs, w.cells? base (a.add (i * Dat.size α)) (Dat.size α) = some cs ∧ Dat.rd w (OldS w) x cs) ∧ Blk.blk x ≤ Rows.uptoBulk (D i)) len (fun i hil => by
      obtain ⟨cs', hc, ht'⟩ := hi i (by omega)
      obtain ⟨x, h1, h2⟩ := he enc w base spare held n cs' _ ht'
      rw [hC] at hc
      exact ⟨x, ⟨cs', hc, h1⟩, h2⟩)
    refine ⟨xs, ⟨some a, cap, by rw [hxl], by omega, hm, els_of_cells hxl fun i x hi => (hx i x hi).1⟩, ?_⟩
    have hb := bulkAll_range D xs 0 (fun i x hi => by simpa using (hx i x hi).2)
    rw [hxl, ← List.range_eq_range'] at hb
    simp only [Rows.uptoBulk, Blk.blk]
    omega

/-- The fields of a struct, each of one cell. -/
theorem trod_fields {H : Type} {enc : TypeId × Value → H} {w : World} {base : Nat} {spare : Nat → Bool} {held : Bool} {t : TypeId} {fs : Array Field} {fuel : Nat} {cs : List Value} {y : DataW H × List MemPlace} (hs : P.underlying t = some (.struct fs)) (hone : oneCellFields P fs = true) (hC : P.cellsOf t = fs.size)
    (h : DataW.trod enc P w base spare held fuel t cs = some y) :
    ∃ (n : Nat) (ys : List (DataW H × List MemPlace)), fuel = n + 1 ∧ y.1 = .agg (ys.map (·.1)) ∧ cs.length = fs.size ∧ ys.length = fs.size ∧
      ∀ (j : Nat) (f : Field) (c : Value) (z : DataW H × List MemPlace), fs[j]? = some f → cs[j]? = some c → ys[j]? = some z → DataW.trod enc P w base spare held n f.type [c] = some z := by
  obtain ⟨ys, n, hn, hy, hlen, hyl, hf⟩ := DataW.trod_struct hs h
  refine ⟨n, ys, hn, by rw [hy], hlen.trans hC, hyl, fun j f c z hj hc hz => ?_⟩
  obtain ⟨ho, hk⟩ := hone_of hone j f hj
  have h1 := hf j f hj
  rw [ho, hk] at h1
  obtain ⟨hlt, rfl⟩ := List.getElem?_eq_some_iff.1 hc
  have hone' : (cs.drop j).take 1 = [cs[j]] := by
    rw [List.drop_eq_getElem_cons hlt]
    rfl
  rw [hone'] at h1
  exact h1.trans hz

theorem opens_sym {t : TypeId} {f0 f1 : Field} (hs : P.underlying t = some (.struct #[f0, f1])) (hone : oneCellFields P #[f0, f1] = true) (hC : P.cellsOf t = 2) (h0 : Opens P Bool f0.type) (h1 : Opens P Int f1.type) : Opens P Sym t := by
  intro H enc w base spare held fuel cs y h
  obtain ⟨n, ys, _, hy, hl, hyl, hf⟩ := trod_fields hs hone hC h
  match cs, hl, ys, hyl with
  | [c0, c1], _, [y0, y1], _ =>
    obtain ⟨b, hb, _⟩ := h0 enc w base spare held n [c0] y0 (hf 0 f0 c0 y0 rfl rfl rfl)
    obtain ⟨z, ⟨hz, hz'⟩, _⟩ := h1 enc w base spare held n [c1] y1 (hf 1 f1 c1 y1 rfl rfl rfl)
    have hb1 : [c0] = [Value.bool b] := hb
    obtain rfl : c0 = .bool b := by simpa using hb1
    obtain rfl : c1 = .int .i64 z := by simpa using hz
    refine ⟨⟨b, z⟩, ⟨rfl, hz'⟩, ?_⟩
    have b0 : ∀ d : DataW H, 1 ≤ Rows.uptoBulk d := fun d => by
      cases d with
      | lit l => cases l <;> simp [Rows.uptoBulk]
      | _ => simp [Rows.uptoBulk]
    have := b0 y0.1
    have := b0 y1.1
    rw [hy]
    simp only [List.map_cons, List.map_nil, Rows.uptoBulk, Rows.uptoBulkAll, Blk.blk]
    omega
theorem opens_rule {t : TypeId} {f0 f1 : Field} (hs : P.underlying t = some (.struct #[f0, f1])) (hone : oneCellFields P #[f0, f1] = true) (hC : P.cellsOf t = 2) (h0 : Opens P Int f0.type) (h1 : Opens P (List Sym) f1.type) : Opens P Rule t := by
  intro H enc w base spare held fuel cs y h
  obtain ⟨n, ys, _, hy, hl, hyl, hf⟩ := trod_fields hs hone hC h
  match cs, hl, ys, hyl with
  | [c0, c1], _, [y0, y1], _ =>
    obtain ⟨z, ⟨hz, hz'⟩, hbz⟩ := h0 enc w base spare held n [c0] y0 (hf 0 f0 c0 y0 rfl rfl rfl)
    obtain ⟨r, hr, hbr⟩ := h1 enc w base spare held n [c1] y1 (hf 1 f1 c1 y1 rfl rfl rfl)
    obtain rfl : c0 = .int .i64 z := by simpa using hz
    obtain ⟨v, hv, hvl⟩ := rd_slice hr
    obtain rfl : c1 = v := by simpa using hv
    refine ⟨⟨z, r⟩, ⟨c1, rfl, hz', hvl⟩, ?_⟩
    rw [hy]
    have e1 : Blk.blk z = 1 := rfl
    simp only [List.map_cons, List.map_nil, Rows.uptoBulk, Rows.uptoBulkAll]
    show 2 + Blk.blk r ≤ _
    omega
theorem opens_gram {t : TypeId} {f0 f1 f2 f3 : Field} (hs : P.underlying t = some (.struct #[f0, f1, f2, f3])) (hone : oneCellFields P #[f0, f1, f2, f3] = true) (hC : P.cellsOf t = 4) (h0 : Opens P Int f0.type) (h1 : Opens P Int f1.type) (h2 : Opens P Int f2.type) (h3 : Opens P (List Rule) f3.type) : Opens P Gram t := by
  intro H enc w base spare held fuel cs y h
  obtain ⟨n, ys, _, hy, hl, hyl, hf⟩ := trod_fields hs hone hC h
  match cs, hl, ys, hyl with
  | [c0, c1, c2, c3], _, [y0, y1, y2, y3], _ =>
    obtain ⟨z0, ⟨hz0, hz0'⟩, hb0⟩ := h0 enc w base spare held n [c0] y0 (hf 0 f0 c0 y0 rfl rfl rfl)
    obtain ⟨z1, ⟨hz1, hz1'⟩, hb1⟩ := h1 enc w base spare held n [c1] y1 (hf 1 f1 c1 y1 rfl rfl rfl)
    obtain ⟨z2, ⟨hz2, hz2'⟩, hb2⟩ := h2 enc w base spare held n [c2] y2 (hf 2 f2 c2 y2 rfl rfl rfl)
    obtain ⟨r, hr, hbr⟩ := h3 enc w base spare held n [c3] y3 (hf 3 f3 c3 y3 rfl rfl rfl)
    obtain rfl : c0 = .int .i64 z0 := by simpa using hz0
    obtain rfl : c1 = .int .i64 z1 := by simpa using hz1
    obtain rfl : c2 = .int .i64 z2 := by simpa using hz2
    obtain ⟨v, hv, hvl⟩ := rd_slice hr
    obtain rfl : c3 = v := by simpa using hv
    refine ⟨⟨z0, z1, z2, r⟩, ⟨c3, rfl, hz0', hz1', hz2', hvl⟩, ?_⟩
    rw [hy]
    have e0 : Blk.blk z0 = 1 := rfl
    have e1 : Blk.blk z1 = 1 := rfl
    have e2 : Blk.blk z2 = 1 := rfl
    simp only [List.map_cons, List.map_nil, Rows.uptoBulk, Rows.uptoBulkAll]
    show 4 + Blk.blk r ≤ _
    omega

/-- An argument, opened. -/
theorem open_arg_struct {H : Type} {enc : TypeId × Value → H} {w : World} {base b0 : Nat} {r : Reach} {spare : Nat → Bool} {held : Bool} {α : Type} [Dat α] [Blk α] {t : TypeId} {fs : Array Field} {v : Value} {d : DataW H} {p : List MemPlace} (hw : Dat.wraps α = true) (hs : P.underlying t = some (.struct fs)) (hO : Opens P α t)
    (hv : Value.okWide P w r b0 t v) (h : DataW.Trod enc P w base spare held t v d p) : ∃ x : α, Vl w (OldS w) x v ∧ Blk.blk x ≤ Rows.uptoBulk d := by
  obtain ⟨cs, rfl, _⟩ := okWide_struct hs hv
  obtain ⟨fuel, hf⟩ := h
  obtain ⟨x, h1, h2⟩ := hO enc w base spare held fuel _ _ hf
  exact ⟨x, ⟨_, h1, by rw [if_pos hw]; rfl⟩, h2⟩
theorem open_arg_slice {H : Type} {enc : TypeId × Value → H} {w : World} {base b0 : Nat} {r : Reach} {spare : Nat → Bool} {held : Bool} {α : Type} [Dat α] [Blk α] {t e : TypeId} {v : Value} {d : DataW H} {p : List MemPlace} (hs : P.underlying t = some (.slice e)) (hO : Opens P (List α) t)
    (hv : Value.okWide P w r b0 t v) (h : DataW.Trod enc P w base spare held t v d p) : ∃ x : List α, Vl w (OldS w) x v ∧ Blk.blk x ≤ Rows.uptoBulk d := by
  obtain ⟨a, len, cap, rfl⟩ := okWide_slice hs hv
  obtain ⟨fuel, hf⟩ := h
  obtain ⟨x, h1, h2⟩ := hO enc w base spare held fuel _ _ hf
  exact ⟨x, ⟨_, h1, rfl⟩, h2⟩
theorem open_arg_int {H : Type} {enc : TypeId × Value → H} {w : World} {base b0 : Nat} {r : Reach} {spare : Nat → Bool} {held : Bool} {t : TypeId} {v : Value} {d : DataW H} {p : List MemPlace} (hs : P.underlying t = some (.int .i64))
    (hv : Value.okWide P w r b0 t v) (h : DataW.Trod enc P w base spare held t v d p) : ∃ x : Int, Vl w (OldS w) x v ∧ Blk.blk x ≤ Rows.uptoBulk d := by
  obtain ⟨n, rfl⟩ := okWide_int hs hv
  obtain ⟨fuel, hf⟩ := h
  obtain ⟨x, h1, h2⟩ := opens_int hs enc w base spare held fuel _ _ hf
  exact ⟨x, ⟨_, h1, rfl⟩, h2⟩
end
theorem blk_len {α : Type} [Blk α] (hb : ∀ x : α, 1 ≤ Blk.blk x) : ∀ (xs : List α), xs.length ≤ blkAll xs
  | [] => by simp [blkAll]
  | x :: xs => by have := blk_len hb xs; have := hb x; simp only [List.length_cons, blkAll]; omega
theorem upto_bound {H : Type} {l : List (DataW H)} (hk : Rows.uptoSmall H l = true) : Rows.uptoBulkAll l ≤ 1048576 := by
  simpa [Rows.uptoSmall] using hk
end Go.Proofs.YtjdojogjogenkaaDoor

/- What the seat's own types read as. -/
namespace Go.Proofs.YtjdojogjogenkaaDoor
open Go.RowKit
theorem opensSym : Opens Tryd.prog Sym 40 := opens_sym Tryd.underlying40 (by kernel_rfl) (by kernel_rfl) (opens_bool Tryd.underlying4) (opens_int Tryd.underlying3)
theorem opensSyms : Opens Tryd.prog (List Sym) 58 := opens_slice Tryd.underlying58 (by kernel_rfl) opensSym
theorem opensRule : Opens Tryd.prog Rule 60 := opens_rule Tryd.underlying60 (by kernel_rfl) (by kernel_rfl) (opens_int Tryd.underlying3) opensSyms
theorem opensRules : Opens Tryd.prog (List Rule) 22 := opens_slice Tryd.underlying22 (by kernel_rfl) opensRule
theorem opensGram : Opens Tryd.prog Gram 24 := opens_gram Tryd.underlying24 (by kernel_rfl) (by kernel_rfl) (opens_int Tryd.underlying3) (opens_int Tryd.underlying3) (opens_int Tryd.underlying3) opensRules
theorem opensInts : Opens Tryd.prog (List Int) 33 := opens_slice Tryd.underlying33 (by kernel_rfl) (opens_int Tryd.underlying3)
end Go.Proofs.YtjdojogjogenkaaDoor

/- A table of operators as plain Lean data, and how it reads in memory. -/
namespace Go.Proofs.YtjdojogjogenkaaDoor
open Go.RowKit

structure Level where
  kind : Int
  ops : List Int
  deriving DecidableEq, Repr
structure Table where
  terms : Int
  atom : Int
  opn : Int
  cls : Int
  levels : List Level
  deriving DecidableEq, Repr
instance instDatLevel : Dat Level where
  size := 2
  wraps := true
  rd w S r cs := ∃ v, cs = [.int .i64 r.kind, v] ∧ I64 r.kind ∧ Vl w S r.ops v
  len h := by obtain ⟨v, rfl, _⟩ := h; rfl
  pos := by decide
  flat h := by simp at h
  one h := by
    obtain ⟨v, rfl, _, hv⟩ := h
    obtain ⟨A, c, rfl, _⟩ := hv.slice
    intro u hu; simp at hu; rcases hu with rfl | rfl <;> rfl
  keep hk hS h := by obtain ⟨v, h1, h2, h3⟩ := h; exact ⟨v, h1, h2, h3.keep hk hS⟩
instance instDatTable : Dat Table where
  size := 5
  wraps := true
  rd w S g cs := ∃ v, cs = [.int .i64 g.terms, .int .i64 g.atom, .int .i64 g.opn, .int .i64 g.cls, v] ∧ I64 g.terms ∧ I64 g.atom ∧ I64 g.opn ∧ I64 g.cls ∧ Vl w S g.levels v
  len h := by obtain ⟨v, rfl, _⟩ := h; rfl
  pos := by decide
  flat h := by simp at h
  one h := by
    obtain ⟨v, rfl, _, _, _, _, hv⟩ := h
    obtain ⟨A, c, rfl, _⟩ := hv.slice
    intro u hu; simp at hu; rcases hu with rfl | rfl | rfl | rfl | rfl <;> rfl
  keep hk hS h := by obtain ⟨v, h1, h2, h3, h4, h5, h6⟩ := h; exact ⟨v, h1, h2, h3, h4, h5, h6.keep hk hS⟩
section
variable {w : World} {S : Nat → Prop}
theorem Vl.level {r : Level} {v : Value} (h : Vl w S r v) : ∃ s, v = .agg #[.int .i64 r.kind, s] ∧ I64 r.kind ∧ Vl w S r.ops s := by
  obtain ⟨cs, ⟨s, rfl, h1, h2⟩, hv⟩ := h
  exact ⟨s, hv, h1, h2⟩
theorem Vl.of_level {r : Level} {s : Value} (h1 : I64 r.kind) (h2 : Vl w S r.ops s) : Vl w S r (.agg #[.int .i64 r.kind, s]) := ⟨_, ⟨s, rfl, h1, h2⟩, rfl⟩
theorem Vl.table {g : Table} {v : Value} (h : Vl w S g v) : ∃ s, v = .agg #[.int .i64 g.terms, .int .i64 g.atom, .int .i64 g.opn, .int .i64 g.cls, s] ∧ I64 g.terms ∧ I64 g.atom ∧ I64 g.opn ∧ I64 g.cls ∧ Vl w S g.levels s := by
  obtain ⟨cs, ⟨s, rfl, h1, h2, h3, h4, h5⟩, hv⟩ := h
  exact ⟨s, hv, h1, h2, h3, h4, h5⟩
theorem Vl.of_table {g : Table} {s : Value} (h1 : I64 g.terms) (h2 : I64 g.atom) (h3 : I64 g.opn) (h4 : I64 g.cls) (h5 : Vl w S g.levels s) : Vl w S g (.agg #[.int .i64 g.terms, .int .i64 g.atom, .int .i64 g.opn, .int .i64 g.cls, s]) := ⟨_, ⟨s, rfl, h1, h2, h3, h4, h5⟩, rfl⟩
theorem Els.level {A : Option Addr} {k : Nat} {xs : List Level} {x : Level} (h : Els w S xs A) (hk : xs[k]? = some x) :
    ∃ b o A' c, A = some ⟨b, o, none⟩ ∧ S b ∧ b < w.heap.size ∧ I64 x.kind ∧ x.ops.length ≤ c ∧ c ≤ 9223372036854775807 ∧ Els w S x.ops A' ∧ w.cell? ⟨b, o + k * 2, none⟩ = some (.int .i64 x.kind) ∧ w.cell? ⟨b, o + k * 2 + 1, none⟩ = some (.slice A' x.ops.length c) := by
  obtain ⟨b, o, cs, hA, hS, hb, ⟨v, rfl, h1, hv⟩, hc⟩ := h.at_ hk
  obtain ⟨A', c, rfl, h2, h3, h4⟩ := hv.slice
  exact ⟨b, o, A', c, hA, hS, hb, h1, h2, h3, h4, hc.c0, hc.c1⟩
end
end Go.Proofs.YtjdojogjogenkaaDoor

/- Tables of operators in plain Lean: what Check, flat and layered compute, and what a valid table is. No program is named here. -/
namespace Go.Proofs.YtjdojogjogenkaaDoor
set_option linter.unusedVariables false

def brk (t : Table) : Bool := decide (t.opn ≠ -1) || decide (t.cls ≠ -1)
def precScan (terms : Int) : List Int → List Int → Int
  | _, [] => 0
  | seen, x :: xs => if x < 0 ∨ terms ≤ x then 1 else if x ∈ seen then 6 else precScan terms (seen ++ [x]) xs
def badLevel (l : Level) : Bool := decide (l.kind < 0 ∨ 3 < l.kind ∨ l.ops.length = 0)
def allOps (t : Table) : List Int := (if brk t then [t.opn, t.cls] else []) ++ (t.levels.map Level.ops).flatten
def precCheck (t : Table) : Int :=
  if t.terms < 1 ∨ 8 < t.terms ∨ t.atom < 0 ∨ t.terms ≤ t.atom then 1
  else if 6 < t.levels.length then 2
  else if t.levels.any badLevel then 3
  else precScan t.terms [t.atom] (allOps t)

def opRule (kd op : Int) : Rule := ⟨0, if kd = 3 then [⟨true, op⟩, ⟨false, 0⟩] else [⟨false, 0⟩, ⟨true, op⟩, ⟨false, 0⟩]⟩
def levRules (l : Level) : List Rule := l.ops.map (opRule l.kind)
def levFrom : Nat → List Level → List Int
  | _, [] => []
  | k, l :: ls => l.ops.map (fun _ => (k : Int)) ++ levFrom (k + 1) ls
def flatRules (t : Table) : List Rule := ⟨0, [⟨true, t.atom⟩]⟩ :: ((if brk t then [⟨0, [⟨true, t.opn⟩, ⟨false, 0⟩, ⟨true, t.cls⟩]⟩] else []) ++ (t.levels.map levRules).flatten)
def flatLev (t : Table) : List Int := (t.levels.length : Int) :: ((if brk t then [(t.levels.length : Int)] else []) ++ levFrom 0 t.levels)

def layRule (kd k op : Int) : Rule :=
  ⟨k, if kd = 0 then [⟨false, k + 1⟩, ⟨true, op⟩, ⟨false, k + 1⟩] else if kd = 1 then [⟨false, k⟩, ⟨true, op⟩, ⟨false, k + 1⟩] else if kd = 2 then [⟨false, k + 1⟩, ⟨true, op⟩, ⟨false, k⟩] else [⟨true, op⟩, ⟨false, k⟩]⟩
def layFrom : Nat → List Level → List Rule
  | _, [] => []
  | k, l :: ls => l.ops.map (layRule l.kind k) ++ (⟨k, [⟨false, (k : Int) + 1⟩]⟩ :: layFrom (k + 1) ls)
def nums : Int → List Int → List Int
  | _, [] => []
  | r, _ :: os => r :: nums (r + 1) os
def toFrom : Int → List Level → List Int
  | _, [] => []
  | r, l :: ls => nums r l.ops ++ (-1 :: toFrom (r + (l.ops.length : Int)) ls)
def layTailR (b : Bool) (t : Table) : List Rule := ⟨(t.levels.length : Int), [⟨true, t.atom⟩]⟩ :: if b then [⟨(t.levels.length : Int), [⟨true, t.opn⟩, ⟨false, 0⟩, ⟨true, t.cls⟩]⟩] else []
def layTailL (b : Bool) : List Int := 0 :: if b then [1] else []
def layRules (b : Bool) (t : Table) : List Rule := layFrom 0 t.levels ++ layTailR b t
def layTo (b : Bool) (t : Table) : List Int := toFrom (if b then 2 else 1) t.levels ++ layTailL b

/-! ### A valid table -/
theorem nodup_le : ∀ (n : Nat) (l : List Int), l.Nodup → (∀ x ∈ l, 0 ≤ x ∧ x < (n : Int)) → l.length ≤ n
  | 0, l, _, h => by
    cases l with
    | nil => simp
    | cons x l => have := h x (by simp); omega
  | n + 1, l, hd, h => by
    by_cases hm : (n : Int) ∈ l
    · have h1 := nodup_le n (l.erase (n : Int)) (hd.erase _) (fun x hx => by
        have h2 := (List.Nodup.mem_erase_iff hd).1 hx
        have h3 := h x h2.2
        have h4 := h2.1
        omega)
      rw [List.length_erase_of_mem hm] at h1
      omega
    · have h1 := nodup_le n l hd (fun x hx => by
        have h3 := h x hx
        have h4 : x ≠ (n : Int) := fun e => hm (e ▸ hx)
        omega)
      omega
theorem precScan_zero (tm : Int) : ∀ (xs seen : List Int), precScan tm seen xs = 0 → seen.Nodup → (seen ++ xs).Nodup ∧ ∀ x ∈ xs, 0 ≤ x ∧ x < tm
  | [], seen, _, hd => by simpa using hd
  | x :: xs, seen, h, hd => by
    unfold precScan at h
    split at h
    · omega
    · rename_i h1
      split at h
      · omega
      · rename_i h2
        have hd' : (seen ++ [x]).Nodup := by
          rw [List.nodup_append]
          exact ⟨hd, by simp, fun a ha b hb => by simp at hb; subst hb; exact fun e => h2 (e ▸ ha)⟩
        obtain ⟨h3, h4⟩ := precScan_zero tm xs (seen ++ [x]) h hd'
        refine ⟨by simpa using h3, fun y hy => ?_⟩
        rcases List.mem_cons.1 hy with rfl | hy
        · omega
        · exact h4 y hy
theorem nums_len : ∀ (r : Int) (os : List Int), (nums r os).length = os.length
  | _, [] => rfl
  | r, _ :: os => by simp [nums, nums_len (r + 1) os]
theorem levRules_len : ∀ (ls : List Level), ((ls.map levRules).flatten).length = ((ls.map Level.ops).flatten).length
  | [] => rfl
  | l :: ls => by simp only [List.map_cons, List.flatten_cons, List.length_append, levRules_len ls, levRules, List.length_map]
theorem levFrom_len : ∀ (k : Nat) (ls : List Level), (levFrom k ls).length = ((ls.map Level.ops).flatten).length
  | _, [] => rfl
  | k, l :: ls => by simp only [levFrom, List.map_cons, List.flatten_cons, List.length_append, levFrom_len (k + 1) ls, List.length_map]
theorem layFrom_len : ∀ (k : Nat) (ls : List Level), (layFrom k ls).length = ((ls.map Level.ops).flatten).length + ls.length
  | _, [] => rfl
  | k, l :: ls => by simp only [layFrom, List.map_cons, List.flatten_cons, List.length_append, List.length_cons, layFrom_len (k + 1) ls, List.length_map]; omega
theorem toFrom_len : ∀ (r : Int) (ls : List Level), (toFrom r ls).length = ((ls.map Level.ops).flatten).length + ls.length
  | _, [] => rfl
  | r, l :: ls => by simp only [toFrom, List.map_cons, List.flatten_cons, List.length_append, List.length_cons, toFrom_len _ ls, nums_len]; omega

/-- What a table that Check lets by is. -/
structure Valid (t : Table) : Prop where
  terms : 1 ≤ t.terms ∧ t.terms ≤ 8
  atom : 0 ≤ t.atom ∧ t.atom < t.terms
  levels : t.levels.length ≤ 6
  kinds : ∀ l ∈ t.levels, 0 ≤ l.kind ∧ l.kind ≤ 3
  ops : ((t.levels.map Level.ops).flatten).length ≤ 8
  range : ∀ x ∈ allOps t, 0 ≤ x ∧ x < t.terms
  nodup : (t.atom :: allOps t).Nodup
  hbrk : brk t = decide (t.opn ≠ -1)
theorem valid_of {t : Table} (h : precCheck t = 0) : Valid t := by
  unfold precCheck at h
  split at h
  · omega
  · rename_i h1
    split at h
    · omega
    · rename_i h2
      split at h
      · omega
      · rename_i h3
        have h4 : t.levels.any badLevel = false := by simpa using h3
        obtain ⟨hn, hr⟩ := precScan_zero t.terms (allOps t) [t.atom] h (by simp)
        have hall := nodup_le 8 ([t.atom] ++ allOps t) hn (fun x hx => by
          rcases List.mem_append.1 hx with hx | hx
          · simp at hx; subst hx; omega
          · have := hr x hx; omega)
        refine ⟨by omega, by omega, by omega, fun l hl => ?_, ?_, hr, by simpa using hn, ?_⟩
        · have h5 := (List.any_eq_false.1 h4) l hl
          simp [badLevel] at h5
          omega
        · simp only [allOps, List.length_append, List.length_cons, List.length_nil] at hall
          omega
        · cases hb : brk t
          · simp [brk] at hb
            simp [hb.1]
          · have := hr t.opn (by simp [allOps, hb])
            simp; omega
theorem Valid.small {t : Table} (h : Valid t) (b : Bool) : ((flatRules t).length ≤ 1000000 ∧ (flatLev t).length ≤ 1000000) ∧ ((layRules b t).length ≤ 1000000 ∧ (layTo b t).length ≤ 1000000) ∧ (allOps t).length ≤ 2000000 := by
  have h1 := h.ops
  have h2 := h.levels
  refine ⟨⟨?_, ?_⟩, ⟨?_, ?_⟩, ?_⟩
  · have h3 : (flatRules t).length ≤ 2 + ((t.levels.map Level.ops).flatten).length := by
      simp only [flatRules, List.length_cons, List.length_append, levRules_len]
      split <;> simp only [List.length_cons, List.length_nil] <;> omega
    omega
  · have h3 : (flatLev t).length ≤ 2 + ((t.levels.map Level.ops).flatten).length := by
      simp only [flatLev, List.length_cons, List.length_append, levFrom_len]
      split <;> simp only [List.length_cons, List.length_nil] <;> omega
    omega
  · have h3 : (layRules b t).length ≤ 2 + ((t.levels.map Level.ops).flatten).length + t.levels.length := by
      simp only [layRules, layTailR, List.length_append, layFrom_len]
      split <;> simp only [List.length_cons, List.length_nil] <;> omega
    omega
  · have h3 : (layTo b t).length ≤ 2 + ((t.levels.map Level.ops).flatten).length + t.levels.length := by
      simp only [layTo, layTailL, List.length_append, toFrom_len]
      split <;> simp only [List.length_cons, List.length_nil] <;> omega
    omega
  · have h3 : (allOps t).length ≤ 2 + ((t.levels.map Level.ops).flatten).length := by
      simp only [allOps, List.length_append]
      split <;> simp only [List.length_cons, List.length_nil] <;> omega
    omega

def flatG (t : Table) : Gram := if precCheck t = 0 then ⟨t.terms, 1, 0, flatRules t⟩ else ⟨0, 0, 0, []⟩
def layG (t : Table) : Gram := if precCheck t = 0 then ⟨t.terms, (t.levels.length : Int) + 1, 0, layRules (brk t) t⟩ else ⟨0, 0, 0, []⟩
def layL (t : Table) : List Int := if precCheck t = 0 then layTo (brk t) t else []
end Go.Proofs.YtjdojogjogenkaaDoor

/- The plain law of FirstWords: in sets that are closed under the rules, the word of a tree begins with a terminal of First of its root, and an empty word's root is in Null. No program is named here. -/
namespace Go.Proofs.YtjdojogjogenkaaDoor
open Go.RowKit
set_option linter.unusedVariables false

/-- A row or another one. -/
def orRow : List Bool → List Bool → List Bool
  | [], _ => []
  | t :: ts, [] => t :: ts
  | t :: ts, f :: fs => (t || f) :: orRow ts fs
theorem orRow_len : ∀ (a b : List Bool), (orRow a b).length = a.length
  | [], _ => rfl
  | _ :: _, [] => rfl
  | _ :: ts, _ :: fs => by simp [orRow, orRow_len ts fs]
theorem orRow_left : ∀ (a b : List Bool) (j : Nat), a[j]? = some true → (orRow a b)[j]? = some true
  | [], _, _, h => by simp at h
  | t :: ts, [], j, h => by simpa [orRow] using h
  | t :: ts, f :: fs, 0, h => by simp at h; simp [orRow, h]
  | t :: ts, f :: fs, j + 1, h => by
    simp only [orRow, List.getElem?_cons_succ]
    exact orRow_left ts fs j (by simpa using h)
theorem orRow_right : ∀ (a b : List Bool) (j : Nat), a.length = b.length → b[j]? = some true → (orRow a b)[j]? = some true
  | [], [], _, _, h => by simp at h
  | [], _ :: _, _, hl, h => by simp at hl
  | t :: ts, [], j, hl, h => by simp at hl
  | t :: ts, f :: fs, 0, hl, h => by simp at h; simp [orRow, h]
  | t :: ts, f :: fs, j + 1, hl, h => by
    simp only [orRow, List.getElem?_cons_succ]
    exact orRow_right ts fs j (by simpa using hl) (by simpa using h)

/-- What first.Sets.Of computes, from a row on. -/
def ofFrom (e : List Bool) (f : List (List Bool)) : List Bool → List Sym → List Bool × Bool
  | out, [] => (out, true)
  | out, x :: xs => if x.term then (out.set x.n.toNat true, false) else if e.getD x.n.toNat false then ofFrom e f (orRow out (f.getD x.n.toNat [])) xs else (orRow out (f.getD x.n.toNat []), false)
theorem ofFrom_len (e : List Bool) (f : List (List Bool)) : ∀ (l : List Sym) (out : List Bool), (ofFrom e f out l).1.length = out.length
  | [], out => rfl
  | x :: xs, out => by
    unfold ofFrom
    split
    · simp
    · split
      · rw [ofFrom_len e f xs, orRow_len]
      · rw [orRow_len]
theorem ofFrom_mono (e : List Bool) (f : List (List Bool)) : ∀ (l : List Sym) (out : List Bool) (j : Nat), out[j]? = some true → (ofFrom e f out l).1[j]? = some true
  | [], out, j, h => h
  | x :: xs, out, j, h => by
    unfold ofFrom
    split
    · have hj := (List.getElem?_eq_some_iff.1 h).1
      simp only [List.getElem?_set]
      split
      · simp [hj]; omega
      · exact h
    · split
      · exact ofFrom_mono e f xs _ j (orRow_left _ _ _ h)
      · exact orRow_left _ _ _ h

mutual
/-- A tree of the grammar with a symbol at its root. -/
def vt (g : Gram) : Tree → Sym → Prop
  | ⟨r, t, ks⟩, s => if s.term then r = -1 ∧ t = s.n ∧ ks = [] else t = 0 ∧ 0 ≤ r ∧ ∃ q : Rule, g.rules[r.toNat]? = some q ∧ q.left = s.n ∧ vts g ks q.right
def vts (g : Gram) : List Tree → List Sym → Prop
  | [], [] => True
  | k :: ks, s :: ss => vt g k s ∧ vts g ks ss
  | [], _ :: _ => False
  | _ :: _, [] => False
end
mutual
/-- The word of a tree. -/
def yieldT : Tree → List Int
  | ⟨r, t, ks⟩ => if r < 0 then [t] else yields ks
def yields : List Tree → List Int
  | [] => []
  | k :: ks => yieldT k ++ yields ks
end

def InF (m : Nat) (f : List (List Bool)) (n : Nat) (c : Int) : Prop := 0 ≤ c ∧ c < (m : Int) ∧ (f.getD n [])[c.toNat]? = some true
/-- The sets are closed under the rules. -/
structure ClosedS (g : Gram) (m : Nat) (e : List Bool) (f : List (List Bool)) : Prop where
  rows : ∀ n : Nat, n < g.nons.toNat → (f.getD n []).length = m
  first : ∀ q ∈ g.rules, ∀ j : Nat, (ofFrom e f (List.replicate m false) q.right).1[j]? = some true → (f.getD q.left.toNat [])[j]? = some true
  null : ∀ q ∈ g.rules, (ofFrom e f (List.replicate m false) q.right).2 = true → e.getD q.left.toNat false = true
def SymIn (m : Nat) (g : Gram) (s : Sym) : Prop := 0 ≤ s.n ∧ if s.term then s.n < (m : Int) else s.n < g.nons

mutual
theorem first_tree {g : Gram} {m : Nat} {e : List Bool} {f : List (List Bool)} (hc : ClosedS g m e f) (hok : ∀ q ∈ g.rules, ∀ s ∈ q.right, SymIn m g s) :
    ∀ (t : Tree) (s : Sym), vt g t s → s.term = false → (yieldT t = [] → e.getD s.n.toNat false = true) ∧ ∀ c w, yieldT t = c :: w → InF m f s.n.toNat c
  | ⟨r, t, ks⟩, s, h, hs => by
    unfold vt at h
    rw [if_neg (by simp [hs])] at h
    obtain ⟨_, hr, q, hq, hql, hks⟩ := h
    have hm := List.mem_of_getElem? hq
    have hy : yieldT ⟨r, t, ks⟩ = yields ks := by unfold yieldT; rw [if_neg (by omega)]
    have ih := first_kids hc hok ks q.right (List.replicate m false) (by simp) (hok q hm) hks
    rw [hy, ← hql]
    exact ⟨fun h0 => hc.null q hm (ih.1 h0), fun c w hw => by
      obtain ⟨h1, h2, h3⟩ := ih.2 c w hw
      exact ⟨h1, h2, hc.first q hm _ h3⟩⟩
theorem first_kids {g : Gram} {m : Nat} {e : List Bool} {f : List (List Bool)} (hc : ClosedS g m e f) (hok : ∀ q ∈ g.rules, ∀ s ∈ q.right, SymIn m g s) :
    ∀ (ks : List Tree) (ss : List Sym) (out : List Bool), out.length = m → (∀ s ∈ ss, SymIn m g s) → vts g ks ss → (yields ks = [] → (ofFrom e f out ss).2 = true) ∧ ∀ c w, yields ks = c :: w → 0 ≤ c ∧ c < (m : Int) ∧ (ofFrom e f out ss).1[c.toNat]? = some true
  | [], [], out, _, _, _ => ⟨fun _ => rfl, fun c w h => by simp [yields] at h⟩
  | [], _ :: _, out, _, _, h => by unfold vts at h; exact h.elim
  | _ :: _, [], out, _, _, h => by unfold vts at h; exact h.elim
  | k :: ks, s :: ss, out, hl, hin, h => by
    unfold vts at h
    have hs := hin s (by simp)
    obtain ⟨hs0, hs1⟩ := hs
    cases hterm : s.term
    · rw [hterm] at hs1
      simp at hs1
      have hrow := hc.rows s.n.toNat (by omega)
      have iht := first_tree hc hok k s h.1 hterm
      have ihk := first_kids hc hok ks ss (orRow out (f.getD s.n.toNat [])) (by rw [orRow_len]; exact hl) (fun x hx => hin x (by simp [hx])) h.2
      have hof : ofFrom e f out (s :: ss) = if e.getD s.n.toNat false then ofFrom e f (orRow out (f.getD s.n.toNat [])) ss else (orRow out (f.getD s.n.toNat []), false) := by
        rw [ofFrom, hterm]; simp
      rw [hof]
      show (yieldT k ++ yields ks = [] → _) ∧ ∀ c w, yieldT k ++ yields ks = c :: w → _
      refine ⟨fun h0 => ?_, fun c w hw => ?_⟩
      · obtain ⟨h1, h2⟩ := List.append_eq_nil_iff.1 h0
        rw [if_pos (iht.1 h1)]
        exact ihk.1 h2
      · cases hyk : yieldT k with
        | nil =>
          rw [hyk] at hw
          rw [if_pos (iht.1 hyk)]
          exact ihk.2 c w hw
        | cons c' w' =>
          rw [hyk] at hw
          simp at hw
          obtain ⟨rfl, _⟩ := hw
          obtain ⟨h1, h2, h3⟩ := iht.2 _ _ hyk
          have h4 := orRow_right out (f.getD s.n.toNat []) c'.toNat (by rw [hl, hrow]) h3
          refine ⟨h1, h2, ?_⟩
          split
          · exact ofFrom_mono e f ss _ _ h4
          · exact h4
    · rw [hterm] at hs1
      simp at hs1
      have hk := h.1
      cases k with
      | mk r t kk =>
        unfold vt at hk
        rw [if_pos hterm] at hk
        obtain ⟨rfl, rfl, rfl⟩ := hk
        have hy : yields (⟨-1, s.n, []⟩ :: ks) = s.n :: yields ks := by simp [yields, yieldT]
        rw [hy]
        refine ⟨fun h0 => by simp at h0, fun c w hw => ?_⟩
        simp at hw
        obtain ⟨rfl, _⟩ := hw
        refine ⟨hs0, hs1, ?_⟩
        rw [ofFrom, if_pos hterm]
        simp only [List.getElem?_set]
        rw [if_pos trivial, if_pos (by omega)]
end
theorem orRow_or : ∀ (a b : List Bool) (j : Nat), (orRow a b)[j]? = some true → a[j]? = some true ∨ b[j]? = some true
  | [], _, _, h => by simp [orRow] at h
  | t :: ts, [], j, h => .inl (by simpa [orRow] using h)
  | t :: ts, u :: us, 0, h => by simp [orRow] at h; rcases h with h | h <;> simp [h]
  | t :: ts, u :: us, j + 1, h => by simpa using orRow_or ts us j (by simpa [orRow] using h)
end Go.Proofs.YtjdojogjogenkaaDoor

/- What gram.Tree computes of a tree: an error number, and how many nodes were visited. No program is named here. -/
namespace Go.Proofs.YtjdojogjogenkaaDoor
open Go.RowKit
set_option linter.unusedVariables false

/-- The symbol at the root of a tree. -/
def rootS (g : Gram) : Tree → Sym
  | ⟨r, t, _⟩ => if r < 0 then ⟨true, t⟩ else match g.rules[r.toNat]? with
    | some q => ⟨false, q.left⟩
    | none => ⟨true, t⟩
mutual
/-- The error of a tree, and the number of nodes behind it; n nodes were visited ahead of it. -/
def visitE (g : Gram) : Tree → Int → Int × Int
  | ⟨r, t, ks⟩, n => if 5000 ≤ n then (2, n + 1) else if r = -1 then (if t < 0 ∨ g.terms ≤ t ∨ ks ≠ [] then (3, n + 1) else (0, n + 1)) else if r < 0 then (3, n + 1) else match g.rules[r.toNat]? with
    | none => (3, n + 1)
    | some q => if t ≠ 0 ∨ ks.length ≠ q.right.length then (3, n + 1) else kidsE g ks q.right (n + 1)
def kidsE (g : Gram) : List Tree → List Sym → Int → Int × Int
  | k :: ks, s :: ss, n => if (visitE g k n).1 ≠ 0 then visitE g k n else if rootS g k ≠ s then (3, (visitE g k n).2) else kidsE g ks ss (visitE g k n).2
  | [], _, n => (0, n)
  | _ :: _, [], n => (0, n)
end
def treeE (g : Gram) (t : Tree) : Int := (visitE g t 0).1

mutual
theorem visitE_bd (g : Gram) : ∀ (t : Tree) (n : Int), 0 ≤ n → n ≤ 5000 → 0 ≤ (visitE g t n).2 ∧ (visitE g t n).2 ≤ 5001 ∧ ((visitE g t n).1 = 0 → (visitE g t n).2 ≤ 5000) ∧ 0 ≤ (visitE g t n).1 ∧ (visitE g t n).1 ≤ 3
  | ⟨r, t, ks⟩, n, h0, h1 => by
    unfold visitE
    split
    · exact ⟨by dsimp only; omega, by dsimp only; omega, fun h => by dsimp only at h; omega, by dsimp only; omega, by dsimp only; omega⟩
    split
    · split
      · exact ⟨by dsimp only; omega, by dsimp only; omega, fun h => by dsimp only at h; omega, by dsimp only; omega, by dsimp only; omega⟩
      · exact ⟨by dsimp only; omega, by dsimp only; omega, fun h => by dsimp only; omega, by dsimp only; omega, by dsimp only; omega⟩
    split
    · exact ⟨by dsimp only; omega, by dsimp only; omega, fun h => by dsimp only at h; omega, by dsimp only; omega, by dsimp only; omega⟩
    split
    · exact ⟨by dsimp only; omega, by dsimp only; omega, fun h => by dsimp only at h; omega, by dsimp only; omega, by dsimp only; omega⟩
    split
    · exact ⟨by dsimp only; omega, by dsimp only; omega, fun h => by dsimp only at h; omega, by dsimp only; omega, by dsimp only; omega⟩
    · exact kidsE_bd g ks _ (n + 1) (by omega) (by omega)
theorem kidsE_bd (g : Gram) : ∀ (ks : List Tree) (ss : List Sym) (n : Int), 0 ≤ n → n ≤ 5000 → 0 ≤ (kidsE g ks ss n).2 ∧ (kidsE g ks ss n).2 ≤ 5001 ∧ ((kidsE g ks ss n).1 = 0 → (kidsE g ks ss n).2 ≤ 5000) ∧ 0 ≤ (kidsE g ks ss n).1 ∧ (kidsE g ks ss n).1 ≤ 3
  | [], ss, n, h0, h1 => by
    have e : kidsE g [] ss n = (0, n) := by cases ss <;> rfl
    rw [e]
    exact ⟨h0, by dsimp only; omega, fun _ => h1, by simp, by simp⟩
  | k :: ks, [], n, h0, h1 => by
    have e : kidsE g (k :: ks) [] n = (0, n) := rfl
    rw [e]
    exact ⟨h0, by dsimp only; omega, fun _ => h1, by simp, by simp⟩
  | k :: ks, s :: ss, n, h0, h1 => by
    have hk := visitE_bd g k n h0 h1
    unfold kidsE
    split
    · exact hk
    · rename_i hz
      have hz : (visitE g k n).1 = 0 := by omega
      have h5 := hk.2.2.1 hz
      split
      · exact ⟨hk.1, hk.2.1, fun h => by simp at h, by simp, by simp⟩
      · exact kidsE_bd g ks ss _ hk.1 h5
end
end Go.Proofs.YtjdojogjogenkaaDoor

/- Plain laws: a tree that gram.Tree lets by is valid; the flat tree of a layered one; whether a flat tree respects the levels, read off the rule or off the operator. No program is named here. -/
namespace Go.Proofs.YtjdojogjogenkaaDoor
open Go.RowKit
set_option linter.unusedVariables false

mutual
theorem vt_of_visit (g : Gram) : ∀ (t : Tree) (n : Int), (visitE g t n).1 = 0 → vt g t (rootS g t)
  | ⟨r, t, ks⟩, n, h => by
    unfold visitE at h
    split at h
    · simp at h
    split at h
    · rename_i h1 h2
      subst h2
      split at h
      · simp at h
      · rename_i h3
        have hk : ks = [] := by false_or_by_contra; rename_i h4; exact h3 (.inr (.inr h4))
        subst hk
        simp [rootS, vt]
    split at h
    · simp at h
    rename_i h1 h2 h3
    split at h
    · simp at h
    · rename_i q hq
      split at h
      · simp at h
      · rename_i h4
        have ht : t = 0 := by false_or_by_contra; rename_i h5; exact h4 (.inl h5)
        have hl : ks.length = q.right.length := by false_or_by_contra; rename_i h5; exact h4 (.inr h5)
        unfold vt
        simp only [rootS, if_neg h3, hq]
        exact ⟨ht, by omega, q, rfl, rfl, vts_of_kids g ks q.right _ hl h⟩
theorem vts_of_kids (g : Gram) : ∀ (ks : List Tree) (ss : List Sym) (n : Int), ks.length = ss.length → (kidsE g ks ss n).1 = 0 → vts g ks ss
  | [], [], _, _, _ => by simp [vts]
  | k :: ks, s :: ss, n, hl, h => by
    unfold kidsE at h
    split at h
    · rename_i h1; exact absurd h h1
    · split at h
      · simp at h
      · rename_i h1 h2
        have e : rootS g k = s := by false_or_by_contra; rename_i h5; exact h2 h5
        unfold vts
        exact ⟨e ▸ vt_of_visit g k n (by omega), vts_of_kids g ks ss _ (by simpa using hl) h⟩
  | [], _ :: _, _, hl, _ => by simp at hl
  | _ :: _, [], _, hl, _ => by simp at hl
end

theorem vts_len' {g : Gram} : ∀ (ks : List Tree) (ss : List Sym), vts g ks ss → ks.length = ss.length
  | [], [], _ => rfl
  | k :: ks, s :: ss, h => by unfold vts at h; simp [vts_len' ks ss h.2]
  | [], _ :: _, h => by unfold vts at h; exact h.elim
  | _ :: _, [], h => by unfold vts at h; exact h.elim

/-! ### The flat tree of a layered one -/
mutual
def backT (tos : List Int) : Tree → Tree
  | ⟨r, t, ks⟩ => if r < 0 then ⟨-1, t, []⟩ else if tos.getD r.toNat 0 < 0 then backH tos ks else ⟨tos.getD r.toNat 0, 0, backL tos ks⟩
def backH (tos : List Int) : List Tree → Tree
  | [] => ⟨0, 0, []⟩
  | k :: _ => backT tos k
def backL (tos : List Int) : List Tree → List Tree
  | [] => []
  | k :: ks => backT tos k :: backL tos ks
end
mutual
def okB (tos : List Int) : Tree → Prop
  | ⟨r, t, ks⟩ => (r = -1 ∧ ks = []) ∨ (0 ≤ r ∧ t = 0 ∧ ks.length ≤ 1000 ∧ ∃ v, tos[r.toNat]? = some v ∧ (v < 0 → ks ≠ []) ∧ okBs tos ks)
def okBs (tos : List Int) : List Tree → Prop
  | [] => True
  | k :: ks => okB tos k ∧ okBs tos ks
end
theorem okBs_mem (tos : List Int) : ∀ (ks : List Tree), okBs tos ks → ∀ k ∈ ks, okB tos k
  | [], _, k, hk => by simp at hk
  | x :: xs, h, k, hk => by
    unfold okBs at h
    rcases List.mem_cons.1 hk with e | e
    · exact e ▸ h.1
    · exact okBs_mem tos xs h.2 k e
mutual
theorem okB_of {g : Gram} {tos : List Int} (H : ∀ (i : Nat) (q : Rule), g.rules[i]? = some q → ∃ v, tos[i]? = some v ∧ (v < 0 → q.right ≠ []) ∧ q.right.length ≤ 1000) : ∀ (t : Tree) (s : Sym), vt g t s → okB tos t
  | ⟨r, t, ks⟩, s, h => by
    unfold vt at h
    unfold okB
    split at h
    · exact .inl ⟨h.1, h.2.2⟩
    · obtain ⟨h1, h2, q, h3, h4, h5⟩ := h
      obtain ⟨v, hv, hn, hl⟩ := H _ _ h3
      exact .inr ⟨h2, h1, by rw [vts_len' ks q.right h5]; exact hl, v, hv, fun hv0 hks => (hn hv0) (by
        subst hks
        cases hq : q.right with
        | nil => rfl
        | cons a l => rw [hq] at h5; simp [vts] at h5), okBs_of H ks q.right h5⟩
theorem okBs_of {g : Gram} {tos : List Int} (H : ∀ (i : Nat) (q : Rule), g.rules[i]? = some q → ∃ v, tos[i]? = some v ∧ (v < 0 → q.right ≠ []) ∧ q.right.length ≤ 1000) : ∀ (ks : List Tree) (ss : List Sym), vts g ks ss → okBs tos ks
  | [], _, _ => by simp [okBs]
  | k :: ks, s :: ss, h => by
    unfold vts at h
    unfold okBs
    exact ⟨okB_of H k s h.1, okBs_of H ks ss h.2⟩
  | _ :: _, [], h => by simp [vts] at h
end
theorem nums_get : ∀ (os : List Int) (r : Int) (i : Nat) (o : Int), os[i]? = some o → (nums r os)[i]? = some (r + (i : Int))
  | [], _, i, o, h => by simp at h
  | x :: os, r, 0, o, h => by simp [nums]
  | x :: os, r, i + 1, o, h => by
    have := nums_get os (r + 1) i o (by simpa using h)
    simp only [nums, List.getElem?_cons_succ, this]
    congr 1; omega
theorem layTo_get : ∀ (ls : List Level) (k : Nat) (r : Int) (i : Nat) (q : Rule), 0 ≤ r → (layFrom k ls)[i]? = some q → ∃ v, (toFrom r ls)[i]? = some v ∧ -1 ≤ v ∧ v ≤ r + (i : Int) ∧ (v < 0 → q.right ≠ []) ∧ q.right.length ≤ 3
  | [], k, r, i, q, _, h => by simp [layFrom] at h
  | l :: ls, k, r, i, q, hr, h => by
    unfold layFrom at h
    unfold toFrom
    rcases Nat.lt_or_ge i l.ops.length with hlt | hge
    · rw [List.getElem?_append_left (by simpa using hlt)] at h
      obtain ⟨o, ho⟩ := get_some hlt
      rw [List.getElem?_map, ho] at h
      rw [List.getElem?_append_left (by rw [nums_len]; exact hlt), nums_get _ _ _ _ ho]
      simp only [Option.map_some, Option.some.injEq] at h
      subst h
      refine ⟨_, rfl, by omega, by omega, fun h => by omega, ?_⟩
      unfold layRule
      dsimp only
      split
      · simp
      · split
        · simp
        · split <;> simp
    · rw [List.getElem?_append_right (by simpa using hge)] at h
      rw [List.getElem?_append_right (by rw [nums_len]; exact hge), nums_len]
      simp only [List.length_map] at h
      cases hi : i - l.ops.length with
      | zero =>
        rw [hi] at h
        simp only [List.getElem?_cons_zero, Option.some.injEq] at h
        subst h
        exact ⟨-1, by simp, by omega, by omega, fun _ => by simp, by simp⟩
      | succ j =>
        rw [hi] at h
        simp only [List.getElem?_cons_succ] at h ⊢
        obtain ⟨v, h1, h2, h3, h4, h5⟩ := layTo_get ls (k + 1) (r + (l.ops.length : Int)) j q (by omega) h
        exact ⟨v, h1, h2, by omega, h4, h5⟩
theorem lay_to (b : Bool) (t : Table) (i : Nat) (q : Rule) (h : (layRules b t)[i]? = some q) : ∃ v, (layTo b t)[i]? = some v ∧ (v < 0 → q.right ≠ []) ∧ q.right.length ≤ 1000 := by
  unfold layRules at h
  unfold layTo
  have hl : (layFrom 0 t.levels).length = (toFrom (if b then 2 else 1) t.levels).length := by rw [layFrom_len, toFrom_len]
  rcases Nat.lt_or_ge i (layFrom 0 t.levels).length with hlt | hge
  · rw [List.getElem?_append_left hlt] at h
    rw [List.getElem?_append_left (by omega)]
    obtain ⟨v, h1, _, _, h4, h5⟩ := layTo_get _ _ _ _ _ (by split <;> omega : (0 : Int) ≤ (if b then 2 else 1)) h
    exact ⟨v, h1, h4, by omega⟩
  · rw [List.getElem?_append_right hge] at h
    rw [List.getElem?_append_right (by omega), ← hl]
    generalize i - (layFrom 0 t.levels).length = j at h ⊢
    unfold layTailR at h
    unfold layTailL
    cases b
    · match j with
      | 0 => simp at h; subst h; exact ⟨0, by simp, by omega, by simp⟩
      | j + 1 => simp at h
    · match j with
      | 0 => simp at h; subst h; exact ⟨0, by simp, by omega, by simp⟩
      | 1 => simp at h; subst h; exact ⟨1, by simp, by omega, by simp⟩
      | j + 2 => simp at h

/-! ### Whether a flat tree respects the levels -/
def levE (t : Table) (r : Int) : Int := (flatLev t).getD r.toNat 0
def lastT (ks : List Tree) : Tree := ks.getLastD ⟨0, 0, []⟩
def headT (ks : List Tree) : Tree := ks.headD ⟨0, 0, []⟩
def nodeE (t : Table) (r : Int) (ks : List Tree) : Bool :=
  match t.levels[(levE t r).toNat]? with
  | none => true
  | some l => decide ((if l.kind = 2 ∨ l.kind = 3 then levE t r else levE t r + 1) ≤ levE t (lastT ks).rule) && (decide (l.kind = 3) || decide ((if l.kind = 1 then levE t r else levE t r + 1) ≤ levE t (headT ks).rule))
mutual
def allowE (t : Table) : Tree → Bool
  | ⟨r, _, ks⟩ => if r < 0 then true else allowEs t ks && nodeE t r ks
def allowEs (t : Table) : List Tree → Bool
  | [] => true
  | k :: ks => allowE t k && allowEs t ks
end
def hitE (l : Level) (ks : List Tree) : Bool := (ks.take 2).any fun k => decide (k.rule = -1) && decide (k.term ∈ l.ops)
def opFrom : Nat → List Level → List Tree → Int × Int
  | k, [], _ => ((k : Int), -1)
  | k, l :: ls, ks => if hitE l ks then ((k : Int), l.kind) else opFrom (k + 1) ls ks
def opOfE (t : Table) (ks : List Tree) : Int × Int := if 1 < ks.length then opFrom 0 t.levels ks else ((t.levels.length : Int), -1)
def nodeR (t : Table) (ks : List Tree) : Bool :=
  if (opOfE t ks).2 < 0 then true else
    !(decide ((opOfE t (lastT ks).kids).1 < (opOfE t ks).1) || decide ((opOfE t (lastT ks).kids).1 = (opOfE t ks).1) && decide ((opOfE t ks).2 < 2)) &&
      (decide (ks.length ≠ 3) || !(decide ((opOfE t (headT ks).kids).1 < (opOfE t ks).1) || decide ((opOfE t (headT ks).kids).1 = (opOfE t ks).1) && decide ((opOfE t ks).2 ≠ 1)))
mutual
def allowR (t : Table) : Tree → Bool
  | ⟨_, _, ks⟩ => nodeR t ks && allowRs t ks
def allowRs (t : Table) : List Tree → Bool
  | [] => true
  | k :: ks => (decide (k.rule < 0) || allowR t k) && allowRs t ks
end

theorem opFrom_none : ∀ (ls : List Level) (k : Nat) (ks : List Tree), (∀ l ∈ ls, hitE l ks = false) → opFrom k ls ks = (((k + ls.length : Nat) : Int), -1)
  | [], k, ks, _ => by simp [opFrom]
  | l :: ls, k, ks, h => by
    unfold opFrom
    rw [if_neg (by rw [h l (by simp)]; simp), opFrom_none ls (k + 1) ks (fun x hx => h x (by simp [hx]))]
    simp only [List.length_cons]
    congr 2; omega
theorem opFrom_hit : ∀ (ls : List Level) (k j : Nat) (l : Level) (ks : List Tree), ls[j]? = some l → hitE l ks = true → (∀ (i : Nat) (l' : Level), i < j → ls[i]? = some l' → hitE l' ks = false) → opFrom k ls ks = (((k + j : Nat) : Int), l.kind)
  | [], _, j, l, _, h, _, _ => by simp at h
  | x :: ls, k, 0, l, ks, h, hh, _ => by
    simp at h; subst h
    unfold opFrom
    rw [if_pos hh]; rfl
  | x :: ls, k, j + 1, l, ks, h, hh, hn => by
    unfold opFrom
    rw [if_neg (by rw [hn 0 x (by omega) rfl]; simp), opFrom_hit ls (k + 1) j l ks (by simpa using h) hh (fun i l' hi hl => hn (i + 1) l' (by omega) (by simpa using hl))]
    congr 2; omega
theorem ops_apart : ∀ (ls : List Level) (i j : Nat) (a b : Level) (x : Int), ((ls.map Level.ops).flatten).Nodup → ls[i]? = some a → ls[j]? = some b → x ∈ a.ops → x ∈ b.ops → i = j
  | [], i, j, a, b, x, _, h, _, _, _ => by simp at h
  | l :: ls, i, j, a, b, x, hn, hi, hj, ha, hb => by
    simp only [List.map_cons, List.flatten_cons, List.nodup_append] at hn
    have hin : ∀ (m : Nat) (c : Level), ls[m]? = some c → x ∈ c.ops → x ∈ (ls.map Level.ops).flatten := fun m c hm hc => List.mem_flatten.2 ⟨c.ops, List.mem_map.2 ⟨c, List.mem_of_getElem? hm, rfl⟩, hc⟩
    match i, j with
    | 0, 0 => rfl
    | 0, j + 1 => simp at hi hj; subst hi; exact absurd rfl (hn.2.2 x ha x (hin j b hj hb))
    | i + 1, 0 => simp at hi hj; subst hj; exact absurd rfl (hn.2.2 x hb x (hin i a hi ha))
    | i + 1, j + 1 => rw [ops_apart ls i j a b x hn.2.1 (by simpa using hi) (by simpa using hj) ha hb]

theorem lev_get : ∀ (ls : List Level) (k i : Nat) (q : Rule), ((ls.map levRules).flatten)[i]? = some q → ∃ (j : Nat) (l : Level) (op : Int), (levFrom k ls)[i]? = some ((k + j : Nat) : Int) ∧ ls[j]? = some l ∧ op ∈ l.ops ∧ q = opRule l.kind op
  | [], _, i, q, h => by simp at h
  | l :: ls, k, i, q, h => by
    simp only [List.map_cons, List.flatten_cons] at h
    unfold levFrom
    rcases Nat.lt_or_ge i l.ops.length with hlt | hge
    · rw [List.getElem?_append_left (by simpa [levRules] using hlt)] at h
      rw [List.getElem?_append_left (by simpa using hlt)]
      obtain ⟨o, ho⟩ := get_some hlt
      simp only [levRules, List.getElem?_map, ho, Option.map_some, Option.some.injEq] at h ⊢
      exact ⟨0, l, o, rfl, rfl, List.mem_of_getElem? ho, h.symm⟩
    · rw [List.getElem?_append_right (by simpa [levRules] using hge)] at h
      rw [List.getElem?_append_right (by simpa using hge)]
      simp only [levRules, List.length_map] at h ⊢
      obtain ⟨j, a, op, h1, h2, h3, h4⟩ := lev_get ls (k + 1) _ q h
      exact ⟨j + 1, a, op, by rw [h1]; congr 2; omega, by simpa using h2, h3, h4⟩
/-- A flat rule and its level. -/
def FlatRow (t : Table) (q : Rule) (v : Int) : Prop :=
  (v = (t.levels.length : Int) ∧ (q.right = [⟨true, t.atom⟩] ∨ brk t = true ∧ q.right = [⟨true, t.opn⟩, ⟨false, 0⟩, ⟨true, t.cls⟩])) ∨
    ∃ (k : Nat) (l : Level) (op : Int), v = (k : Int) ∧ t.levels[k]? = some l ∧ op ∈ l.ops ∧ q = opRule l.kind op
theorem flat_row (t : Table) (i : Nat) (q : Rule) (h : (flatRules t)[i]? = some q) : ∃ v, (flatLev t)[i]? = some v ∧ FlatRow t q v := by
  unfold flatRules at h
  unfold flatLev
  match i with
  | 0 => simp at h; subst h; exact ⟨_, rfl, .inl ⟨rfl, .inl rfl⟩⟩
  | i + 1 =>
    simp only [List.getElem?_cons_succ] at h ⊢
    cases hb : brk t
    · rw [hb] at h
      simp only [Bool.false_eq_true, if_false, List.nil_append] at h ⊢
      obtain ⟨j, l, op, h1, h2, h3, h4⟩ := lev_get t.levels 0 i q h
      exact ⟨_, h1, .inr ⟨j, l, op, by simp, h2, h3, h4⟩⟩
    · rw [hb] at h
      simp only [if_true, List.cons_append, List.nil_append] at h ⊢
      match i with
      | 0 => simp at h; subst h; exact ⟨_, rfl, .inl ⟨rfl, .inr ⟨hb, rfl⟩⟩⟩
      | i + 1 =>
        simp only [List.getElem?_cons_succ] at h ⊢
        obtain ⟨j, l, op, h1, h2, h3, h4⟩ := lev_get t.levels 0 i q h
        exact ⟨_, h1, .inr ⟨j, l, op, by simp, h2, h3, h4⟩⟩
theorem levE_of {t : Table} {i : Nat} {v r : Int} (h : (flatLev t)[i]? = some v) (hr : i = r.toNat) : levE t r = v := by
  unfold levE
  rw [List.getD_eq_getElem?_getD, ← hr, h]; rfl

/-- The kids of a node of the flat grammar. -/
inductive KidsF (t : Table) (g : Gram) (ks : List Tree) (v : Int) : Prop where
  | atom (h : v = (t.levels.length : Int)) (a : Int) (e : ks = [⟨-1, a, []⟩])
  | brk (h : v = (t.levels.length : Int)) (hb : brk t = true) (y : Tree) (hy : vt g y ⟨false, 0⟩) (e : ks = [⟨-1, t.opn, []⟩, y, ⟨-1, t.cls, []⟩])
  | pre (k : Nat) (l : Level) (op : Int) (h : v = (k : Int)) (hl : t.levels[k]? = some l) (ho : op ∈ l.ops) (h3 : l.kind = 3) (y : Tree) (hy : vt g y ⟨false, 0⟩) (e : ks = [⟨-1, op, []⟩, y])
  | inf (k : Nat) (l : Level) (op : Int) (h : v = (k : Int)) (hl : t.levels[k]? = some l) (ho : op ∈ l.ops) (h3 : l.kind ≠ 3) (x y : Tree) (hx : vt g x ⟨false, 0⟩) (hy : vt g y ⟨false, 0⟩) (e : ks = [x, ⟨-1, op, []⟩, y])
theorem vt_leaf {g : Gram} {x : Tree} {a : Int} (h : vt g x ⟨true, a⟩) : x = ⟨-1, a, []⟩ := by
  obtain ⟨r, t, ks⟩ := x
  unfold vt at h
  simp at h
  obtain ⟨rfl, rfl, rfl⟩ := h
  rfl
theorem vts_one {g : Gram} {ks : List Tree} {a : Sym} (h : vts g ks [a]) : ∃ x, ks = [x] ∧ vt g x a := by
  match ks, h with
  | [x], h => simp [vts] at h; exact ⟨x, rfl, h⟩
  | [], h => simp [vts] at h
  | x :: y :: l, h => simp [vts] at h
theorem vts_cons {g : Gram} {ks : List Tree} {a : Sym} {ss : List Sym} (h : vts g ks (a :: ss)) : ∃ x l, ks = x :: l ∧ vt g x a ∧ vts g l ss := by
  match ks, h with
  | x :: l, h => unfold vts at h; exact ⟨x, l, rfl, h.1, h.2⟩
  | [], h => simp [vts] at h
theorem kidsF_of {t : Table} {g : Gram} {ks : List Tree} {q : Rule} {v : Int} (h : FlatRow t q v) (hk : vts g ks q.right) : KidsF t g ks v := by
  rcases h with ⟨hv, h | ⟨hb, h⟩⟩ | ⟨k, l, op, hv, hl, ho, rfl⟩
  · rw [h] at hk
    obtain ⟨x, rfl, hx⟩ := vts_one hk
    exact .atom hv t.atom (by rw [vt_leaf hx])
  · rw [h] at hk
    obtain ⟨x, l1, rfl, hx, hk⟩ := vts_cons hk
    obtain ⟨y, l2, rfl, hy, hk⟩ := vts_cons hk
    obtain ⟨z, rfl, hz⟩ := vts_one hk
    exact .brk hv hb y hy (by rw [vt_leaf hx, vt_leaf hz])
  · unfold opRule at hk
    by_cases h3 : l.kind = 3
    · simp only [if_pos h3] at hk
      obtain ⟨x, l1, rfl, hx, hk⟩ := vts_cons hk
      obtain ⟨y, rfl, hy⟩ := vts_one hk
      exact .pre k l op hv hl ho h3 y hy (by rw [vt_leaf hx])
    · simp only [if_neg h3] at hk
      obtain ⟨x, l1, rfl, hx, hk⟩ := vts_cons hk
      obtain ⟨y, l2, rfl, hy, hk⟩ := vts_cons hk
      obtain ⟨z, rfl, hz⟩ := vts_one hk
      exact .inf k l op hv hl ho h3 x z hx hz (by rw [vt_leaf hy])
/-- A node of the flat grammar, opened. -/
theorem flat_node {t : Table} {g : Gram} (hg : g.rules = flatRules t) {r x : Int} {ks : List Tree} {s : Sym} (h : vt g ⟨r, x, ks⟩ s) (hs : s.term = false) : 0 ≤ r ∧ x = 0 ∧ ∃ v, (flatLev t)[r.toNat]? = some v ∧ KidsF t g ks v := by
  unfold vt at h
  rw [if_neg (by rw [hs]; simp)] at h
  obtain ⟨h1, h2, q, h3, h4, h5⟩ := h
  rw [hg] at h3
  obtain ⟨v, hv, hf⟩ := flat_row t _ q h3
  exact ⟨h2, h1, v, hv, kidsF_of hf h5⟩
theorem vt_node {g : Gram} {y : Tree} {a : Int} (h : vt g y ⟨false, a⟩) : 0 ≤ y.rule := by
  obtain ⟨r, x, ks⟩ := y
  unfold vt at h
  simp at h
  exact h.2.1

theorem hit_first (l : Level) (a : Int) (y : Tree) (hy : ¬ y.rule = -1) (ks : List Tree) : hitE l (⟨-1, a, []⟩ :: y :: ks) = decide (a ∈ l.ops) := by
  have h : decide (y.rule = -1) = false := decide_eq_false hy
  simp only [hitE, List.take_succ_cons, List.take_zero, List.any_cons, List.any_nil, h, Bool.false_and, Bool.or_false]
  rw [Bool.eq_iff_iff]; simp [Tree.rule, Tree.term]; exact decide_eq_true_iff
theorem hit_second (l : Level) (a : Int) (y : Tree) (hy : ¬ y.rule = -1) (ks : List Tree) : hitE l (y :: ⟨-1, a, []⟩ :: ks) = decide (a ∈ l.ops) := by
  have h : decide (y.rule = -1) = false := decide_eq_false hy
  simp only [hitE, List.take_succ_cons, List.take_zero, List.any_cons, List.any_nil, h, Bool.false_and, Bool.or_false, Bool.false_or]
  rw [Bool.eq_iff_iff]; simp [Tree.rule, Tree.term]; exact decide_eq_true_iff
/-- The operator off the kids, and the level off the rule. -/
theorem op_law {t : Table} (hv : Valid t) {g : Gram} (hg : g.rules = flatRules t) {r x : Int} {ks : List Tree} {s : Sym} (h : vt g ⟨r, x, ks⟩ s) (hs : s.term = false) :
    opOfE t ks = (levE t r, match t.levels[(levE t r).toNat]? with | none => -1 | some l => l.kind) := by
  obtain ⟨h0, rfl, v, hl, hk⟩ := flat_node hg h hs
  rw [levE_of hl rfl]
  have hnd := hv.nodup
  have hop : ((t.levels.map Level.ops).flatten).Nodup := by
    have h1 := (List.nodup_cons.1 hnd).2
    unfold allOps at h1
    exact (List.nodup_append.1 h1).2.1
  have hno : ∀ y : Tree, vt g y ⟨false, 0⟩ → ¬ y.rule = -1 := fun y hy e => by have := vt_node hy; omega
  unfold opOfE
  cases hk with
  | atom hvn a e =>
    subst e; subst hvn
    rw [if_neg (by simp)]
    simp
  | brk hvn hb y hy e =>
    subst e; subst hvn
    rw [if_pos (by simp), opFrom_none]
    · simp
    · intro l hl'
      have h1 : t.opn ∉ l.ops := fun ho => by
        have h1 := (List.nodup_cons.1 hnd).2
        unfold allOps at h1
        rw [if_pos hb] at h1
        exact (List.nodup_append.1 h1).2.2 t.opn (by simp) t.opn (List.mem_flatten.2 ⟨l.ops, List.mem_map.2 ⟨l, hl', rfl⟩, ho⟩) rfl
      rw [hit_first l _ y (hno y hy), decide_eq_false h1]
  | pre k l op hvk hlk ho h3 y hy e =>
    subst e; subst hvk
    rw [if_pos (by simp), opFrom_hit t.levels 0 k l _ hlk (by rw [hit_first l _ y (hno y hy), decide_eq_true ho])]
    · simp [hlk]
    · intro i l' hi hl'
      have h1 : op ∉ l'.ops := fun h => by have := ops_apart t.levels i k l' l op hop hl' hlk h ho; omega
      rw [hit_first l' _ y (hno y hy), decide_eq_false h1]
  | inf k l op hvk hlk ho h3 a y ha hy e =>
    subst e; subst hvk
    rw [if_pos (by simp), opFrom_hit t.levels 0 k l _ hlk (by rw [hit_second l _ a (hno a ha), decide_eq_true ho])]
    · simp [hlk]
    · intro i l' hi hl'
      have h1 : op ∉ l'.ops := fun h => by have := ops_apart t.levels i k l' l op hop hl' hlk h ho; omega
      rw [hit_second l' _ a (hno a ha), decide_eq_false h1]
theorem op_law' {t : Table} (hv : Valid t) {g : Gram} (hg : g.rules = flatRules t) {y : Tree} (h : vt g y ⟨false, 0⟩) : (opOfE t y.kids).1 = levE t y.rule := by
  obtain ⟨r, x, ks⟩ := y
  rw [show (Tree.mk r x ks).kids = ks from rfl, op_law hv hg h rfl]; rfl
theorem node_law {t : Table} (hv : Valid t) {g : Gram} (hg : g.rules = flatRules t) {r x : Int} {ks : List Tree} {s : Sym} (h : vt g ⟨r, x, ks⟩ s) (hs : s.term = false) : nodeR t ks = nodeE t r ks := by
  have hop := op_law hv hg h hs
  obtain ⟨h0, rfl, v, hl, hk⟩ := flat_node hg h hs
  have hlv := levE_of hl rfl
  unfold nodeR nodeE
  rw [hop]
  cases hk with
  | atom hvn a e => subst hvn; rw [hlv]; simp
  | brk hvn hb y hy e => subst hvn; rw [hlv]; simp
  | pre k l op hvk hlk ho h3 y hy e =>
    subst e; subst hvk; rw [hlv]
    simp only [Int.toNat_natCast, hlk, h3]
    have e1 := op_law' hv hg hy
    have e2 : lastT [⟨-1, op, []⟩, y] = y := rfl
    rw [e2, e1]
    generalize levE t y.rule = a
    rw [Bool.eq_iff_iff]
    simp
    try omega
  | inf k l op hvk hlk ho h3 a y ha hy e =>
    subst e; subst hvk; rw [hlv]
    have hkd := hv.kinds l (List.mem_of_getElem? hlk)
    simp only [Int.toNat_natCast, hlk]
    have e1 := op_law' hv hg hy
    have e3 := op_law' hv hg ha
    have e2 : lastT [a, ⟨-1, op, []⟩, y] = y := rfl
    have e4 : headT [a, ⟨-1, op, []⟩, y] = a := rfl
    rw [e2, e1, e4, e3]
    generalize levE t y.rule = b
    generalize levE t a.rule = c
    rw [if_neg (by omega), Bool.eq_iff_iff]
    simp only [List.length_cons, List.length_nil, Bool.and_eq_true, Bool.or_eq_true, Bool.not_eq_true', decide_eq_true_eq, Bool.or_eq_false_iff, decide_eq_false_iff_not, Bool.and_eq_false_iff]
    have h5 : l.kind = 0 ∨ l.kind = 1 ∨ l.kind = 2 := by omega
    rcases h5 with h5 | h5 | h5 <;> simp [h5] <;> omega
mutual
theorem allow_law {t : Table} (hv : Valid t) {g : Gram} (hg : g.rules = flatRules t) : ∀ (x : Tree) (s : Sym), vt g x s → s.term = false → allowR t x = allowE t x
  | ⟨r, x, ks⟩, s, h, hs => by
    unfold allowR allowE
    have h' := h
    unfold vt at h'
    rw [if_neg (by rw [hs]; simp)] at h'
    obtain ⟨h1, h2, q, h3, h4, h5⟩ := h'
    rw [if_neg (by omega), node_law hv hg h hs, allows_law hv hg ks q.right h5, Bool.and_comm]
theorem allows_law {t : Table} (hv : Valid t) {g : Gram} (hg : g.rules = flatRules t) : ∀ (ks : List Tree) (ss : List Sym), vts g ks ss → allowRs t ks = allowEs t ks
  | [], _, _ => by simp [allowRs, allowEs]
  | k :: ks, s :: ss, h => by
    unfold vts at h
    unfold allowRs allowEs
    rw [allows_law hv hg ks ss h.2]
    congr 1
    cases hst : s.term
    · rw [allow_law hv hg k s h.1 hst]
      have : ¬ k.rule < 0 := by
        obtain ⟨st, sn⟩ := s
        dsimp only at hst
        subst hst
        have := vt_node h.1; omega
      simp [this]
    · obtain ⟨st, sn⟩ := s
      dsimp only at hst
      subst hst
      rw [vt_leaf h.1]
      simp [Tree.rule, allowE]
  | _ :: _, [], h => by simp [vts] at h
end
end Go.Proofs.YtjdojogjogenkaaDoor

/- How many nodes a tree has. No program is named here. -/
namespace Go.Proofs.YtjdojogjogenkaaDoor
set_option linter.unusedVariables false

mutual
def nodesT : Tree → Nat
  | ⟨_, _, ks⟩ => 1 + nodesL ks
def nodesL : List Tree → Nat
  | [] => 0
  | k :: ks => nodesT k + nodesL ks
end
theorem nodesL_append : ∀ (a b : List Tree), nodesL (a ++ b) = nodesL a + nodesL b
  | [], b => by simp [nodesL]
  | x :: a, b => by simp only [List.cons_append, nodesL, nodesL_append a b]; omega
theorem yields_append : ∀ (a b : List Tree), yields (a ++ b) = yields a ++ yields b
  | [], b => by simp [yields]
  | x :: a, b => by simp only [List.cons_append, yields, yields_append a b, List.append_assoc]
theorem len_nodes : ∀ (a : List Tree), a.length ≤ nodesL a
  | [] => by simp [nodesL]
  | ⟨r, t, ks⟩ :: a => by have := len_nodes a; simp only [List.length_cons, nodesL, nodesT]; omega
mutual
theorem yield_nodes : ∀ (t : Tree), (yieldT t).length ≤ nodesT t
  | ⟨r, t, ks⟩ => by
    unfold yieldT nodesT
    split
    · simp
    · have := yields_nodes ks; omega
theorem yields_nodes : ∀ (ks : List Tree), (yields ks).length ≤ nodesL ks
  | [] => by simp [yields]
  | k :: ks => by
    have := yield_nodes k
    have := yields_nodes ks
    simp only [yields, List.length_append, nodesL]; omega
end
end Go.Proofs.YtjdojogjogenkaaDoor

/- The element types of slices, off the program's tables. -/
namespace Go.Proofs.YtjdojogjogenkaaDoor
open Go.RowKit
theorem infoInt : (Tryd.prog.info? 3).map (fun i => (i.zero, i.size, i.bytes)) = some (some (.int .i64 0), 1, 8) := by kernel_rfl
theorem elemInt : ElemT Tryd.prog Int 33 3 8 := by obtain ⟨i, h1, h2, h3, h4⟩ := info_parts infoInt; exact ⟨i, _, Tryd.underlying33, h1, h2, h3, h4, rfl⟩
theorem infoBool : (Tryd.prog.info? 4).map (fun i => (i.zero, i.size, i.bytes)) = some (some (.bool false), 1, 1) := by kernel_rfl
theorem elemBool : ElemT Tryd.prog Bool 53 4 1 := by obtain ⟨i, h1, h2, h3, h4⟩ := info_parts infoBool; exact ⟨i, _, Tryd.underlying53, h1, h2, h3, h4, rfl⟩
theorem infoSym : (Tryd.prog.info? 40).map (fun i => (i.zero, i.size, i.bytes)) = some (some (.agg #[.bool false, .int .i64 0]), 2, 16) := by kernel_rfl
theorem elemSym : ElemT Tryd.prog Sym 58 40 16 := by obtain ⟨i, h1, h2, h3, h4⟩ := info_parts infoSym; exact ⟨i, _, Tryd.underlying58, h1, h2, h3, h4, rfl⟩
theorem infoRule : (Tryd.prog.info? 60).map (fun i => (i.zero, i.size, i.bytes)) = some (some (.agg #[.int .i64 0, .slice none 0 0]), 2, 32) := by kernel_rfl
theorem elemRule : ElemT Tryd.prog Rule 22 60 32 := by obtain ⟨i, h1, h2, h3, h4⟩ := info_parts infoRule; exact ⟨i, _, Tryd.underlying22, h1, h2, h3, h4, rfl⟩
theorem infoTree : (Tryd.prog.info? 27).map (fun i => (i.zero, i.size, i.bytes)) = some (some (.agg #[.int .i64 0, .int .i64 0, .slice none 0 0]), 3, 40) := by kernel_rfl
theorem elemTree : ElemT Tryd.prog Tree 25 27 40 := by obtain ⟨i, h1, h2, h3, h4⟩ := info_parts infoTree; exact ⟨i, _, Tryd.underlying25, h1, h2, h3, h4, rfl⟩
theorem infoInts : (Tryd.prog.info? 33).map (fun i => (i.zero, i.size, i.bytes)) = some (some (.slice none 0 0), 1, 24) := by kernel_rfl
theorem elemInts : ElemT Tryd.prog (List Int) 109 33 24 := by obtain ⟨i, h1, h2, h3, h4⟩ := info_parts infoInts; exact ⟨i, _, Tryd.underlying109, h1, h2, h3, h4, rfl⟩
theorem infoBools : (Tryd.prog.info? 53).map (fun i => (i.zero, i.size, i.bytes)) = some (some (.slice none 0 0), 1, 24) := by kernel_rfl
theorem elemBools : ElemT Tryd.prog (List Bool) 112 53 24 := by obtain ⟨i, h1, h2, h3, h4⟩ := info_parts infoBools; exact ⟨i, _, Tryd.underlying112, h1, h2, h3, h4, rfl⟩
end Go.Proofs.YtjdojogjogenkaaDoor

/- Appending a whole slice onto a row of the call's own; a row made with room by append-of-make. -/
namespace Go.Proofs.YtjdojogjogenkaaDoor
open Go.RowKit

theorem Els.lists {α : Type} [Dat α] {w : World} {S : Nat → Prop} {b o : Nat} : ∀ (xs : List α) (s : Nat),
    (∀ i x, xs[i]? = some x → ∃ cs, Dat.rd w S x cs ∧ At w b (o + (s + i) * Dat.size α) cs) →
    ∃ css : List (List Value), css.length = xs.length ∧ (∀ (i : Nat) (x : α) (cs : List Value), xs[i]? = some x → css[i]? = some cs → Dat.rd w S x cs) ∧ At w b (o + s * Dat.size α) css.flatten
  | [], s, _ => ⟨[], rfl, by simp, by intro j u hu; simp at hu⟩
  | x :: xs, s, h => by
    obtain ⟨cs, h1, h2⟩ := h 0 x rfl
    obtain ⟨css, h3, h4, h5⟩ := Els.lists xs (s + 1) (fun i y hi => by
      obtain ⟨ds, h6, h7⟩ := h (i + 1) y (by simpa using hi)
      exact ⟨ds, h6, by rw [show s + 1 + i = s + (i + 1) from by omega]; exact h7⟩)
    refine ⟨cs :: css, by simp [h3], fun i y ds hi hd => ?_, ?_⟩
    · match i with
      | 0 => simp at hi hd; subst hi; subst hd; exact h1
      | i + 1 => exact h4 i y ds (by simpa using hi) (by simpa using hd)
    · intro j u hu
      rw [List.flatten_cons] at hu
      have hl := Dat.len h1
      rcases Nat.lt_or_ge j cs.length with hj | hj
      · rw [List.getElem?_append_left hj] at hu
        have := h2 j u hu
        simpa using this
      · rw [List.getElem?_append_right hj] at hu
        have := h5 _ u hu
        rw [hl] at this hj
        rw [show o + s * Dat.size α + j = o + (s + 1) * Dat.size α + (j - Dat.size α) from by rw [Nat.add_mul]; omega]
        exact this

theorem flat_len {size : Nat} : ∀ (css : List (List Value)) (_ : ∀ cs ∈ css, cs.length = size), css.flatten.length = css.length * size
  | [], _ => by simp
  | c :: css, h => by
    rw [List.flatten_cons, List.length_append, flat_len css (fun cs hcs => h cs (by simp [hcs])), h c (by simp), List.length_cons, Nat.add_mul]; omega

section
variable {P : Program} {w : World} {S : Nat → Prop} {base : Nat} {α : Type} [Dat α]

theorem own_many {e : TypeId} {v v' : Value} {w' : World} {xs ys : List α} {css dss : List (List Value)}
    (h2 : css.length = xs.length) (h3 : ∀ (i : Nat) (x : α) (cs : List Value), xs[i]? = some x → css[i]? = some cs → Dat.rd w (OwnT S base v w) x cs)
    (h2' : dss.length = ys.length) (h3' : ∀ (i : Nat) (x : α) (cs : List Value), ys[i]? = some x → dss[i]? = some cs → Dat.rd w (OwnT S base v w) x cs)
    (hown : w'.ownsRow base e (Dat.size α) v' (xs.length + ys.length) (css.flatten ++ dss.flatten))
    (hg : w.grownBy w' v.ownBlock) (hat : v'.ownBlock = v.ownBlock ∨ v'.ownBlock = some w.heap.size) : Own w' S base e v' (xs ++ ys) := by
  have hkeep : ∀ {y : α} {ds : List Value}, Dat.rd w (OwnT S base v w) y ds → Dat.rd w' (OwnT S base v' w') y ds := fun hy =>
    Dat.keep (fun p hp hlt => World.cell?_of_block (hg.block p.block hlt (fun e => hp.2.1 e.symm))) (fun b hb => ⟨hb.1, by
      rcases hat with e | e
      · rw [e]; exact hb.2.1
      · rw [e]; intro h; injection h with h; have := hb.2.2; omega, Nat.lt_of_lt_of_le hb.2.2 hg.size⟩) hy
  refine ⟨css ++ dss, by simpa using hown, by simp [h2, h2'], fun i y ds hi hd => ?_⟩
  rcases Nat.lt_or_ge i xs.length with hlt | hge
  · rw [List.getElem?_append_left hlt] at hi
    rw [List.getElem?_append_left (by omega)] at hd
    exact hkeep (h3 i y ds hi hd)
  · rw [List.getElem?_append_right hge] at hi
    rw [List.getElem?_append_right (by omega), h2] at hd
    exact hkeep (h3' _ y ds hi hd)

theorem run_append_nil_src {t ty e : TypeId} {i : TypeInfo} {size : Nat} (ht : P.underlying t = some (.slice e)) (hi : P.info? e = some i)
    {v : Value} {n : Nat} {xs : List Value} (hown : w.ownsRow base e size v n xs) (c : Nat) : (Builtin.append_ #[t, t] ty #[v, .slice none 0 c]).run P w = .ok v w := by
  rcases hown.2 with ⟨rfl, rfl⟩ | ⟨g, cap, cur, rfl, _, _, hnc, _⟩
  · simp [Builtin.append_, run_underlying ht, sizeOf, typeInfo, hi, Builtin.lenOf, Builtin.firstCells]
  · simp [Builtin.append_, run_underlying ht, sizeOf, typeInfo, hi, Builtin.lenOf, Builtin.firstCells, hnc, storeCells]
theorem run_append_none_src {t ty e : TypeId} {i : TypeInfo} {size : Nat} (ht : P.underlying t = some (.slice e)) (hi : P.info? e = some i)
    {v : Value} {n : Nat} {xs : List Value} (hown : w.ownsRow base e size v n xs) (ad : Addr) (c : Nat) : (Builtin.append_ #[t, t] ty #[v, .slice (some ad) 0 c]).run P w = .ok v w := by
  rcases hown.2 with ⟨rfl, rfl⟩ | ⟨g, cap, cur, rfl, _, _, hnc, _⟩
  · simp [Builtin.append_, run_underlying ht, sizeOf, typeInfo, hi, Builtin.lenOf, Builtin.firstCells, loadCells, loadCellsFrom]
  · simp [Builtin.append_, run_underlying ht, sizeOf, typeInfo, hi, Builtin.lenOf, Builtin.firstCells, hnc, storeCells, loadCells, loadCellsFrom]

/-- append of a whole slice that reads as ys. -/
theorem run_ownMany {t ty e : TypeId} {bytes : Nat} (hT : ElemT P α t e bytes) {v : Value} {xs ys : List α} {A : Option Addr} {c : Nat} (hown : Own w S base e v xs)
    (hys : Els w (OwnT S base v w) ys A) (hlen : (xs.length + ys.length) * bytes ≤ 140737488355328) (hmax : xs.length + ys.length ≤ 9223372036854775807) (hbase : base ≤ w.heap.size) :
    ∃ v' w', (Builtin.append_ #[t, t] ty #[v, .slice A ys.length c]).run P w = .ok v' w' ∧ Own w' S base e v' (xs ++ ys) ∧ w.grownBy w' v.ownBlock ∧ (v'.ownBlock = v.ownBlock ∨ v'.ownBlock = some w.heap.size) := by
  obtain ⟨i, z, ht, hi, hz, hsize, hby, hzs⟩ := hT
  by_cases hne : ys = []
  · subst hne
    refine ⟨v, w, ?_, by simpa using hown, ⟨rfl, rfl, rfl, Nat.le_refl _, fun _ _ _ => rfl⟩, .inl rfl⟩
    obtain ⟨css, h1, _⟩ := hown
    cases A with
    | none => exact run_append_nil_src ht hi h1 c
    | some ad => exact run_append_none_src ht hi h1 ad c
  · obtain ⟨b, o, rfl, hb, hx⟩ := hys hne
    obtain ⟨dss, h2', h3', h4'⟩ := Els.lists (o := o) ys 0 (fun i x hi => by simpa using hx i x hi)
    simp only [Nat.zero_mul, Nat.add_zero] at h4'
    obtain ⟨css, h1, h2, h3⟩ := hown
    have hdl : ∀ ds ∈ dss, ds.length = Dat.size α := by
      intro ds hds
      obtain ⟨i, hi, rfl⟩ := List.getElem_of_mem hds
      exact Dat.len (h3' i _ _ (List.getElem?_eq_getElem (by omega : i < ys.length)) (List.getElem?_eq_getElem hi))
    have hfl := flat_len dss hdl
    have hone : ∀ u ∈ dss.flatten, u.oneCell' = true := by
      intro u hu
      obtain ⟨ds, hds, hu⟩ := List.mem_flatten.1 hu
      obtain ⟨i, hi, rfl⟩ := List.getElem_of_mem hds
      exact Dat.one (h3' i _ _ (List.getElem?_eq_getElem (by omega : i < ys.length)) (List.getElem?_eq_getElem hi)) u hu
    obtain ⟨v', w', hr, ho, hg, _, h5⟩ := run_append_own_at (P := P) w base t ty e i z (Dat.size α) bytes ht hi hz hsize hby hzs Dat.pos v xs.length css.flatten h1 ⟨b, o, none⟩ ys.length c dss.flatten (by rw [hfl, h2'])
      (by
        intro j u hu
        have h := h4' j u hu
        have hadd : (⟨b, o, none⟩ : Addr).add j = ⟨b, o + j, none⟩ := by unfold Addr.add; split <;> simp_all
        rw [hadd]; exact h) hone (by simpa [maxLen] using hmax) hlen hbase
    exact ⟨v', w', hr, own_many h2 h3 h2' h3' ho hg h5, hg, h5⟩
end

section
variable {P : Program} (w : World) {S : Nat → Prop} {base : Nat} {α : Type} [Dat α]
theorem wp_ownMany {o : Oper} {a : Act} {K : Act → World → Prop} {Q : Exit → Act → World → Prop} (s xo : Operand) {t e : TypeId} {bytes : Nat} (hT : ElemT P α t e bytes)
    (ho : o.op = .call { callee := .builtin .append, args := #[s, xo], argTypes := #[t, t] })
    {v : Value} {xs : List α} (hs : a.eval s = v) (hown : Own w S base e v xs) (ys : List α) {A : Option Addr} {n c : Nat} (hx : a.eval xo = .slice A n c) (hn : n = ys.length)
    (hys : Els w (OwnT S base v w) ys A) (hlen : (xs.length + ys.length) * bytes ≤ 140737488355328) (hmax : xs.length + ys.length ≤ 9223372036854775807) (hbase : base ≤ w.heap.size)
    (h : ∀ v' w', Own w' S base e v' (xs ++ ys) → w.grownBy w' v.ownBlock → (v'.ownBlock = v.ownBlock ∨ v'.ownBlock = some w.heap.size) → K (a.put o.dst v') w') : o.wp P a w K Q := by
  subst hn
  obtain ⟨v', w', hrun, h2, h3, h4⟩ := run_ownMany (ty := o.type) (c := c) hT hown hys hlen hmax hbase
  unfold Oper.wp execOp
  simp only [ho, resolve, invoke, builtin, Sem.run_bind, Sem.run_pure, Result.andThen_ok, List.map_toArray, List.map_cons, List.map_nil, hs, hx, hrun]
  exact h v' w' h2 h3 h4
theorem wpList_ownMany {ops : Array Oper} {rest : List Oper} {o : Oper} {a : Act} {Q : Exit → Act → World → Prop} (hgd : o.guard = none) (s xo : Operand) {t e : TypeId} {bytes : Nat} (hT : ElemT P α t e bytes)
    (ho : o.op = .call { callee := .builtin .append, args := #[s, xo], argTypes := #[t, t] })
    {v : Value} {xs : List α} (hs : a.eval s = v) (hown : Own w S base e v xs) (ys : List α) {A : Option Addr} {n c : Nat} (hx : a.eval xo = .slice A n c) (hn : n = ys.length)
    (hys : Els w (OwnT S base v w) ys A) (hlen : (xs.length + ys.length) * bytes ≤ 140737488355328) (hmax : xs.length + ys.length ≤ 9223372036854775807) (hbase : base ≤ w.heap.size)
    (h : ∀ v' w', Own w' S base e v' (xs ++ ys) → w.grownBy w' v.ownBlock → (v'.ownBlock = v.ownBlock ∨ v'.ownBlock = some w.heap.size) → wpList P ops Q rest (a.put o.dst v') w') : wpList P ops Q (o :: rest) a w :=
  wpList_plain hgd fun _ hK => wp_ownMany w s xo hT ho hs hown ys hx hn hys hlen hmax hbase fun v' w' h2 h3 h4 => hK _ _ (h v' w' h2 h3 h4)
end

/-- A row of no element, with room. -/
theorem Own.made {α : Type} [Dat α] {w : World} (S : Nat → Prop) {base : Nat} {e : TypeId} {cur : Array Value} {cap : Nat} (hb : base ≤ w.heap.size) (hm : cap ≤ 9223372036854775807) (hs : cur.size = cap * Dat.size α) :
    Own (w.alloc (.cells cur e)) S base e (.slice (some ⟨w.heap.size, 0, none⟩) 0 cap) ([] : List α) :=
  ⟨[], World.ownsRow_made w cur cap hb (by simpa [maxLen] using hm) hs, rfl, fun i x cs h => by simp at h⟩

/-- append(nil, make([]T, n)...) : the run, as an equation, and what the row is when cut to no element. -/
theorem run_room {P : Program} {w : World} {α : Type} [Dat α] {t tn ty e : TypeId} {bytes : Nat} {kn k : IntKind} (hT : ElemT P α t e bytes) (htn : P.underlying tn = some (.int kn)) (n : Nat) (h0 : 0 < n) (h48 : n * bytes ≤ 281474976710656) (h63 : n ≤ 9223372036854775807) :
    ∃ w' g cap, (Builtin.append_ #[t, tn] ty #[.slice none 0 0, .int k n]).run P w = .ok (.slice (some ⟨g, 0, none⟩) n cap) w' ∧ g = w.heap.size ∧ n ≤ cap ∧ cap ≤ 9223372036854775807 ∧ (∀ S, Own w' S w.heap.size e (.slice (some ⟨g, 0, none⟩) 0 cap) ([] : List α)) ∧ Below w.heap.size w w' ∧ w'.heap.size = w.heap.size + 1 := by
  obtain ⟨i, z, ht, hi, hz, hsize, hby, hzs⟩ := hT
  have hr := Lib.run_append_nil_zeros (P := P) w t tn ty e i z k kn ht htn hi hz n h0 (by rw [hsize]; exact Dat.pos) (by omega) (by rw [hby]; exact h48)
  have hge := grownCap_ge w n 0 e
  have hcm := grownCap_le_maxLen w n 0 e (by simpa [maxLen] using h63)
  refine ⟨_, _, _, hr, rfl, hge, by simpa [maxLen] using hcm, fun S => ?_, ((Below.refl _ _).drew).alloc (Nat.le_refl _) _, by simp⟩
  exact Own.made (w := w.drew) S (Nat.le_refl _) (by simpa [maxLen] using hcm) (by simp only [Array.size_append, size_zeroCells, hzs, ← Nat.add_mul]; congr 1; omega)

/-- What append leaves of a literal row on nil: a row of the call's own. -/
theorem Own.litGrown {α : Type} [Dat α] {w : World} (S : Nat → Prop) {base : Nat} {e : TypeId} (xs : List α) (css : List (List Value)) (z : Array Value) (n : Nat) (hn : n = xs.length) (hz : z.size = Dat.size α) (hb : base ≤ w.heap.size) (hm : xs.length ≤ 9223372036854775807) (hl : css.length = xs.length)
    (hr : ∀ (i : Nat) (x : α) (cs : List Value), xs[i]? = some x → css[i]? = some cs → Dat.rd w (fun b => (S b ∨ base ≤ b) ∧ b < w.heap.size) x cs) (w0 : World) :
    Own (w.alloc (.cells (css.flatten.toArray ++ Builtin.zeroCells z ((Question.appendCap n 0 e).cut (w0.tape w0.drawn (Question.appendCap n 0 e)) - n)) e)).drew S base e (.slice (some ⟨w.heap.size, 0, none⟩) n ((Question.appendCap n 0 e).cut (w0.tape w0.drawn (Question.appendCap n 0 e)))) xs := by
  subst hn
  have hge := grownCap_ge w0 xs.length 0 e
  have hcm := grownCap_le_maxLen w0 xs.length 0 e (by simpa [maxLen] using hm)
  unfold grownCap at hge hcm
  generalize (Question.appendCap xs.length 0 e).cut (w0.tape w0.drawn (Question.appendCap xs.length 0 e)) = cap at *
  have hdl : ∀ ds ∈ css, ds.length = Dat.size α := by
    intro ds hds
    obtain ⟨i, hi, rfl⟩ := List.getElem_of_mem hds
    exact Dat.len (hr i _ _ (List.getElem?_eq_getElem (by omega : i < xs.length)) (List.getElem?_eq_getElem hi))
  have hfl := flat_len css hdl
  rw [hl] at hfl
  refine ⟨css, ⟨hfl, .inr ⟨w.heap.size, cap, _, rfl, hb, heap_alloc_new w _, hge, hcm, ?_, ?_⟩⟩, hl, fun i x cs hi hc => Dat.keep (fun p hp hlt => ?_) (fun b hb' => ⟨hb'.1, ?_, ?_⟩) (hr i x cs hi hc)⟩
  · simp only [Array.size_append, size_zeroCells, hz, List.size_toArray, hfl, ← Nat.add_mul]; congr 1; omega
  · rw [Array.toList_append, List.take_append_of_le_length (by simp [hfl])]
    exact List.take_of_length_le (by simp [hfl])
  · exact ((Below.refl _ _).alloc (Nat.le_refl _) _ : Below w.heap.size w _).cell hp.2
  · simp [Value.ownBlock]; have := hb'.2; omega
  · have := hb'.2; simp; omega

/-- A call that returns a row of its own. -/
def RetOwn {α : Type} [Dat α] (w0 : World) (S : Nat → Prop) (et : TypeId) (xs : List α) (e : Ending) (w' : World) : Prop :=
  ∃ v, e = .returned v ∧ Own w' S w0.heap.size et v xs ∧ Below w0.heap.size w0 w'
theorem flat_take_le {α : Type} (xss : List (List α)) (k : Nat) : (xss.take k).flatten.length ≤ xss.flatten.length := by
  conv => rhs; rw [← List.take_append_drop k xss]
  rw [List.flatten_append, List.length_append]; omega
theorem flat_take_snoc {α : Type} {xss : List (List α)} {k : Nat} {xs : List α} (h : xss[k]? = some xs) : (xss.take (k + 1)).flatten = (xss.take k).flatten ++ xs := by
  rw [take_snoc h, List.flatten_append]; simp
theorem Els.own {α : Type} [Dat α] {w : World} {S : Nat → Prop} {base : Nat} {e : TypeId} {β : Type} [Dat β] {v : Value} {ys : List β} {xs : List α} {A : Option Addr} (h : Els w S xs A) (hown : Own w S base e v ys) (hS : ∀ b, S b → b < base) (hb : base ≤ w.heap.size) : Els w (OwnT S base v w) xs A :=
  h.keep (fun _ _ _ => rfl) (fun b hb' => ⟨.inl hb', fun e => by have := (hown.block b e).1; have := hS b hb'; omega, by have := hS b hb'; omega⟩)
theorem own_ne {α : Type} [Dat α] {w : World} {S : Nat → Prop} {B : Nat} {e : TypeId} {v : Value} {xs : List α} (h : Own w S (B + 1) e v xs) : some B ≠ v.ownBlock := fun e => by have := (h.block B e.symm).1; omega
theorem At.new (w : World) (cs : List Value) (t : TypeId) : At (w.alloc (.cells cs.toArray t)) w.heap.size 0 cs := fun j u hu => by
  rw [Nat.zero_add, World.cell?_alloc_new]; simpa using hu
theorem snoc_len {α : Type} (l : List α) (x : α) : (l ++ [x]).length = l.length + 1 := by simp
theorem Own.base {α : Type} [Dat α] {w : World} {S : Nat → Prop} {base base' : Nat} {e : TypeId} {v : Value} {xs : List α} (h : Own w S base e v xs) (hb : base' ≤ base) : Own w S base' e v xs := by
  obtain ⟨css, h1, h2, h3⟩ := h
  refine ⟨css, ⟨h1.1, ?_⟩, h2, fun i x cs hi hc => Dat.keep (fun _ _ _ => rfl) (fun b hb' => ⟨hb'.1.imp id (fun h => Nat.le_trans hb h), hb'.2⟩) (h3 i x cs hi hc)⟩
  rcases h1.2 with h | ⟨g, cap, cur, q1, q2, q3⟩
  · exact .inl h
  · exact .inr ⟨g, cap, cur, q1, Nat.le_trans hb q2, q3⟩

/-- A block that is known whole holds a row of elements. -/
theorem els_of_blk {α : Type} [Dat α] {w : World} {S : Nat → Prop} {g : Nat} {t : TypeId} {xs : List α} {cells : Array Value} (css : List (List Value)) (hb : Blk' w g t cells) (hc : cells = css.flatten.toArray) (hl : css.length = xs.length)
    (hr : ∀ (i : Nat) (x : α) (cs : List Value), xs[i]? = some x → css[i]? = some cs → Dat.rd w S x cs) (hS : S g) : Els w S xs (some ⟨g, 0, none⟩) := by
  subst hc
  intro _
  refine ⟨g, 0, rfl, hS, fun i x hi => ?_⟩
  have hil : i < css.length := by have := (List.getElem?_eq_some_iff.1 hi).1; omega
  have hci : css[i]? = some css[i] := List.getElem?_eq_getElem hil
  refine ⟨css[i], hr i x _ hi hci, fun j u hu => ?_⟩
  have hcl : ∀ cs ∈ css, cs.length = Dat.size α := by
    intro cs hcs
    obtain ⟨k, hk, rfl⟩ := List.getElem_of_mem hcs
    exact Dat.len (hr k _ _ (List.getElem?_eq_getElem (by omega : k < xs.length)) (List.getElem?_eq_getElem hk))
  have hf := flat_get css hcl i j _ u hci hu
  rw [hb.cell]
  simpa [Nat.zero_add] using hf
theorem rd_two {α : Type} [Dat α] {w : World} {S : Nat → Prop} {x y : α} {cs ds : List Value} (h1 : Dat.rd w S x cs) (h2 : Dat.rd w S y ds) : ∀ (i : Nat) (z : α) (es : List Value), [x, y][i]? = some z → [cs, ds][i]? = some es → Dat.rd w S z es
  | 0, z, es, hi, hd => by simp at hi hd; subst hi; subst hd; exact h1
  | 1, z, es, hi, hd => by simp at hi hd; subst hi; subst hd; exact h2
  | _ + 2, z, es, hi, _ => by simp at hi
theorem rd_one {α : Type} [Dat α] {w : World} {S : Nat → Prop} {x : α} {cs : List Value} (h1 : Dat.rd w S x cs) : ∀ (i : Nat) (z : α) (es : List Value), [x][i]? = some z → [cs][i]? = some es → Dat.rd w S z es
  | 0, z, es, hi, hd => by simp at hi hd; subst hi; subst hd; exact h1
  | _ + 1, z, es, hi, _ => by simp at hi
end Go.Proofs.YtjdojogjogenkaaDoor

/- Trees by their kids; the words of kids. No program is named here. -/
namespace Go.Proofs.YtjdojogjogenkaaDoor
open Go.RowKit
set_option linter.unusedVariables false

mutual
theorem Tree.ind {P : Tree → Prop} (h : ∀ r t ks, (∀ k ∈ ks, P k) → P ⟨r, t, ks⟩) : ∀ t, P t
  | ⟨r, t, ks⟩ => h r t ks (Tree.inds h ks)
theorem Tree.inds {P : Tree → Prop} (h : ∀ r t ks, (∀ k ∈ ks, P k) → P ⟨r, t, ks⟩) : ∀ ks : List Tree, ∀ k ∈ ks, P k
  | [], k, hk => by simp at hk
  | x :: xs, k, hk => by
    rcases List.mem_cons.1 hk with e | e
    · exact e ▸ Tree.ind h x
    · exact Tree.inds h xs k e
end
theorem yields_take {ks : List Tree} {m : Nat} {k : Tree} (h : ks[m]? = some k) : yields (ks.take (m + 1)) = yields (ks.take m) ++ yieldT k := by
  have e : ∀ (a b : List Tree), yields (a ++ b) = yields a ++ yields b := by
    intro a b
    induction a with
    | nil => rfl
    | cons x a ih => simp only [List.cons_append, yields, ih, List.append_assoc]
  rw [take_snoc h, e]
  simp [yields]
theorem yields_drop (ks : List Tree) (m : Nat) : yields ks = yields (ks.take m) ++ yields (ks.drop m) := by
  have e : ∀ (a b : List Tree), yields (a ++ b) = yields a ++ yields b := by
    intro a b
    induction a with
    | nil => rfl
    | cons x a ih => simp only [List.cons_append, yields, ih, List.append_assoc]
  rw [← e, List.take_append_drop]

end Go.Proofs.YtjdojogjogenkaaDoor

/- What the climber comes to at a level and a place, in plain Lean: a relation, by steps. No program is named here. -/
namespace Go.Proofs.YtjdojogjogenkaaDoor
open Go.RowKit
set_option linter.unusedVariables false

/-- A tree and the place behind it; or the place where the word is rejected. -/
inductive Res where
  | ok (t : Tree) (p : Nat)
  | rej (p : Nat)
def leafT (a : Int) : Tree := ⟨-1, a, []⟩

section
variable (t : Table) (w : List Int) (rul : Int → Int) (P : Nat → Nat → Res → Prop)
inductive Opd (p : Nat) : Res → Prop where
  | atom (h : ¬ (brk t = true ∧ w[p]? = some t.opn)) (ha : w[p]? = some t.atom) : Opd p (.ok ⟨0, 0, [leafT t.atom]⟩ (p + 1))
  | none (h : ¬ (brk t = true ∧ w[p]? = some t.opn)) (ha : w[p]? ≠ some t.atom) : Opd p (.rej p)
  | brk (hb : brk t = true) (ho : w[p]? = some t.opn) (x : Tree) (q : Nat) (hx : P 0 (p + 1) (.ok x q)) (hc : w[q]? = some t.cls) : Opd p (.ok ⟨1, 0, [leafT t.opn, x, leafT t.cls]⟩ (q + 1))
  | brkNo (hb : brk t = true) (ho : w[p]? = some t.opn) (x : Tree) (q : Nat) (hx : P 0 (p + 1) (.ok x q)) (hc : w[q]? ≠ some t.cls) : Opd p (.rej q)
  | brkRej (hb : brk t = true) (ho : w[p]? = some t.opn) (q : Nat) (hx : P 0 (p + 1) (.rej q)) : Opd p (.rej q)
/-- The loop of a level of infix operators, with the tree so far. -/
inductive Lp (l : Level) (k : Nat) : Tree → Nat → Res → Prop where
  | stop (x : Tree) (q : Nat) (hn : ∀ o, w[q]? = some o → o ∉ l.ops) : Lp l k x q (.ok x q)
  | rej (x : Tree) (q q' : Nat) (op : Int) (ho : w[q]? = some op) (hm : op ∈ l.ops) (h : P (if l.kind = 2 then k else k + 1) (q + 1) (.rej q')) : Lp l k x q (.rej q')
  | one (x y : Tree) (q q' : Nat) (op : Int) (ho : w[q]? = some op) (hm : op ∈ l.ops) (hk : l.kind ≠ 1) (h : P (if l.kind = 2 then k else k + 1) (q + 1) (.ok y q')) : Lp l k x q (.ok ⟨rul op, 0, [x, leafT op, y]⟩ q')
  | more (x y : Tree) (q q' : Nat) (op : Int) (r : Res) (ho : w[q]? = some op) (hm : op ∈ l.ops) (hk : l.kind = 1) (h : P (if l.kind = 2 then k else k + 1) (q + 1) (.ok y q')) (hr : Lp l k ⟨rul op, 0, [x, leafT op, y]⟩ q' r) : Lp l k x q r
inductive ParS (k p : Nat) : Res → Prop where
  | opd (h : k = t.levels.length) (r : Res) (ho : Opd t w P p r) : ParS k p r
  | skip (l : Level) (hl : t.levels[k]? = some l) (h3 : l.kind = 3) (hn : ∀ o, w[p]? = some o → o ∉ l.ops) (r : Res) (h : P (k + 1) p r) : ParS k p r
  | pre (l : Level) (hl : t.levels[k]? = some l) (h3 : l.kind = 3) (op : Int) (ho : w[p]? = some op) (hm : op ∈ l.ops) (y : Tree) (q : Nat) (h : P k (p + 1) (.ok y q)) : ParS k p (.ok ⟨rul op, 0, [leafT op, y]⟩ q)
  | preRej (l : Level) (hl : t.levels[k]? = some l) (h3 : l.kind = 3) (op : Int) (ho : w[p]? = some op) (hm : op ∈ l.ops) (q : Nat) (h : P k (p + 1) (.rej q)) : ParS k p (.rej q)
  | infRej (l : Level) (hl : t.levels[k]? = some l) (h3 : l.kind ≠ 3) (q : Nat) (h : P (k + 1) p (.rej q)) : ParS k p (.rej q)
  | inf (l : Level) (hl : t.levels[k]? = some l) (h3 : l.kind ≠ 3) (x : Tree) (q : Nat) (h : P (k + 1) p (.ok x q)) (r : Res) (hr : Lp w rul P l k x q r) : ParS k p r
end
theorem Opd.mono {t : Table} {w : List Int} {P Q : Nat → Nat → Res → Prop} (h : ∀ k p r, P k p r → Q k p r) {p : Nat} {r : Res} (ho : Opd t w P p r) : Opd t w Q p r := by
  cases ho with
  | atom a b => exact .atom a b
  | none a b => exact .none a b
  | brk a b c d e f => exact .brk a b c d (h _ _ _ e) f
  | brkNo a b c d e f => exact .brkNo a b c d (h _ _ _ e) f
  | brkRej a b c d => exact .brkRej a b c (h _ _ _ d)
theorem Lp.mono {w : List Int} {rul : Int → Int} {P Q : Nat → Nat → Res → Prop} (h : ∀ k p r, P k p r → Q k p r) {l : Level} {k : Nat} {x : Tree} {q : Nat} {r : Res} (ho : Lp w rul P l k x q r) : Lp w rul Q l k x q r := by
  induction ho with
  | stop x q a => exact .stop x q a
  | rej x q q' op a b c => exact .rej x q q' op a b (h _ _ _ c)
  | one x y q q' op a b c d => exact .one x y q q' op a b c (h _ _ _ d)
  | more x y q q' op r a b c d e ih => exact .more x y q q' op r a b c (h _ _ _ d) ih
theorem ParS.mono {t : Table} {w : List Int} {rul : Int → Int} {P Q : Nat → Nat → Res → Prop} (h : ∀ k p r, P k p r → Q k p r) {k p : Nat} {r : Res} (ho : ParS t w rul P k p r) : ParS t w rul Q k p r := by
  cases ho with
  | opd a r b => exact .opd a _ (b.mono h)
  | skip l a b c r d => exact .skip l a b c _ (h _ _ _ d)
  | pre l a b op c d y q e => exact .pre l a b op c d y q (h _ _ _ e)
  | preRej l a b op c d q e => exact .preRej l a b op c d q (h _ _ _ e)
  | infRej l a b q c => exact .infRej l a b q (h _ _ _ c)
  | inf l a b x q c r d => exact .inf l a b x q (h _ _ _ c) _ (d.mono h)
/-- What the climber comes to in at most n nested calls. -/
def Par (t : Table) (w : List Int) (rul : Int → Int) : Nat → Nat → Nat → Res → Prop
  | 0, _, _, _ => False
  | n + 1, k, p, r => ParS t w rul (Par t w rul n) k p r
theorem Par.up {t : Table} {w : List Int} {rul : Int → Int} : ∀ (n : Nat) (k p : Nat) (r : Res), Par t w rul n k p r → Par t w rul (n + 1) k p r
  | 0, _, _, _, h => h.elim
  | n + 1, k, p, r, h => ParS.mono (Par.up n) h
theorem Par.le {t : Table} {w : List Int} {rul : Int → Int} {n m : Nat} (hm : n ≤ m) {k p : Nat} {r : Res} (h : Par t w rul n k p r) : Par t w rul m k p r := by
  induction hm with
  | refl => exact h
  | step _ ih => exact Par.up _ _ _ _ ih
end Go.Proofs.YtjdojogjogenkaaDoor

/- Plain law: a flat tree that respects the levels is what the climber comes to at its word. No program is named here. -/
namespace Go.Proofs.YtjdojogjogenkaaDoor
open Go.RowKit
set_option linter.unusedVariables false

def opsL (t : Table) : List Int := (t.levels.map Level.ops).flatten
def baseN (t : Table) : Nat := if brk t then 2 else 1
/-- The number of an operator's rule. -/
def rulOf (t : Table) (op : Int) : Int := ((baseN t + (opsL t).idxOf op : Nat) : Int)
theorem idx_of_nodup : ∀ (l : List Int) (m : Nat) (x : Int), l.Nodup → l[m]? = some x → l.idxOf x = m
  | [], m, x, _, h => by simp at h
  | a :: l, 0, x, _, h => by simp at h; subst h; simp [List.idxOf_cons]
  | a :: l, m + 1, x, hn, h => by
    have hx : l[m]? = some x := by simpa using h
    have hne : a ≠ x := fun e => (List.nodup_cons.1 hn).1 (e ▸ List.mem_of_getElem? hx)
    rw [List.idxOf_cons, show (a == x) = false by simpa using hne]
    show List.idxOf x l + 1 = m + 1
    rw [idx_of_nodup l m x (List.nodup_cons.1 hn).2 hx]
theorem lev_getO : ∀ (ls : List Level) (k i : Nat) (q : Rule), ((ls.map levRules).flatten)[i]? = some q → ∃ (j : Nat) (l : Level) (op : Int), (levFrom k ls)[i]? = some ((k + j : Nat) : Int) ∧ ls[j]? = some l ∧ op ∈ l.ops ∧ q = opRule l.kind op ∧ ((ls.map Level.ops).flatten)[i]? = some op
  | [], _, i, q, h => by simp at h
  | l :: ls, k, i, q, h => by
    simp only [List.map_cons, List.flatten_cons] at h ⊢
    unfold levFrom
    rcases Nat.lt_or_ge i l.ops.length with hlt | hge
    · rw [List.getElem?_append_left (by simpa [levRules] using hlt)] at h
      rw [List.getElem?_append_left (by simpa using hlt), List.getElem?_append_left hlt]
      obtain ⟨o, ho⟩ := get_some hlt
      simp only [levRules, List.getElem?_map, ho, Option.map_some, Option.some.injEq] at h ⊢
      exact ⟨0, l, o, rfl, rfl, List.mem_of_getElem? ho, h.symm, rfl⟩
    · rw [List.getElem?_append_right (by simpa [levRules] using hge)] at h
      rw [List.getElem?_append_right (by simpa using hge), List.getElem?_append_right hge]
      simp only [levRules, List.length_map] at h ⊢
      obtain ⟨j, a, op, h1, h2, h3, h4, h5⟩ := lev_getO ls (k + 1) _ q h
      exact ⟨j + 1, a, op, by rw [h1]; congr 2; omega, by simpa using h2, h3, h4, h5⟩
/-- The kids of a node of the flat grammar, with the rule's number and its level. -/
inductive KidsC (t : Table) (g : Gram) (ks : List Tree) (r : Int) (v : Nat) : Prop where
  | atom (h : v = t.levels.length) (hr : r = 0) (e : ks = [leafT t.atom])
  | brk (h : v = t.levels.length) (hr : r = 1) (hb : brk t = true) (y : Tree) (hy : vt g y ⟨false, 0⟩) (e : ks = [leafT t.opn, y, leafT t.cls])
  | pre (l : Level) (op : Int) (hl : t.levels[v]? = some l) (ho : op ∈ l.ops) (h3 : l.kind = 3) (hr : r = rulOf t op) (y : Tree) (hy : vt g y ⟨false, 0⟩) (e : ks = [leafT op, y])
  | inf (l : Level) (op : Int) (hl : t.levels[v]? = some l) (ho : op ∈ l.ops) (h3 : l.kind ≠ 3) (hr : r = rulOf t op) (x y : Tree) (hx : vt g x ⟨false, 0⟩) (hy : vt g y ⟨false, 0⟩) (e : ks = [x, leafT op, y])
theorem Valid.opsN {t : Table} (hv : Valid t) : (opsL t).Nodup := by
  have h1 := (List.nodup_cons.1 hv.nodup).2
  unfold allOps at h1
  exact (List.nodup_append.1 h1).2.1
theorem flat_nodeC {t : Table} (hv : Valid t) {g : Gram} (hg : g.rules = flatRules t) {r x a : Int} {ks : List Tree} (h : vt g ⟨r, x, ks⟩ ⟨false, a⟩) : x = 0 ∧ 0 ≤ r ∧ ∃ v : Nat, levE t r = (v : Int) ∧ v ≤ t.levels.length ∧ KidsC t g ks r v := by
  unfold vt at h
  simp only [Bool.false_eq_true, if_false] at h
  obtain ⟨h1, h2, q, h3, h4, h5⟩ := h
  refine ⟨h1, h2, ?_⟩
  rw [hg] at h3
  obtain ⟨i, rfl⟩ : ∃ i : Nat, r = (i : Int) := ⟨r.toNat, by omega⟩
  simp only [Int.toNat_natCast] at h3
  have hop : ∀ m : Nat, ((t.levels.map levRules).flatten)[m]? = some q → (flatLev t)[i]? = (levFrom 0 t.levels)[m]? → i = baseN t + m → ∃ v : Nat, levE t (i : Int) = (v : Int) ∧ v ≤ t.levels.length ∧ KidsC t g ks (i : Int) v := by
    intro m hm hfl hi
    obtain ⟨j, l, op, g1, g2, g3, g4, g5⟩ := lev_getO t.levels 0 m q hm
    have hj := (List.getElem?_eq_some_iff.1 g2).1
    refine ⟨j, levE_of (by rw [hfl, g1]; simp) (by simp), by omega, ?_⟩
    have hr : (i : Int) = rulOf t op := by
      unfold rulOf
      rw [idx_of_nodup (opsL t) m op hv.opsN g5, hi]
    subst g4
    unfold opRule at h5
    by_cases h3 : l.kind = 3
    · simp only [if_pos h3] at h5
      obtain ⟨x, l1, rfl, hx, hk⟩ := vts_cons h5
      obtain ⟨y, rfl, hy⟩ := vts_one hk
      exact .pre l op g2 g3 h3 hr y hy (by rw [vt_leaf hx]; rfl)
    · simp only [if_neg h3] at h5
      obtain ⟨x, l1, rfl, hx, hk⟩ := vts_cons h5
      obtain ⟨y, l2, rfl, hy, hk⟩ := vts_cons hk
      obtain ⟨z, rfl, hz⟩ := vts_one hk
      exact .inf l op g2 g3 h3 hr x z hx hz (by rw [vt_leaf hy]; rfl)
  unfold flatRules at h3
  match i, h3, hop with
  | 0, h3, _ =>
    simp only [List.getElem?_cons_zero, Option.some.injEq] at h3
    subst h3
    obtain ⟨y, rfl, hy⟩ := vts_one h5
    exact ⟨t.levels.length, levE_of (i := 0) rfl rfl, Nat.le_refl _, .atom rfl rfl (by rw [vt_leaf hy]; rfl)⟩
  | i + 1, h3, hop =>
    simp only [List.getElem?_cons_succ] at h3
    cases hb : brk t
    · rw [hb] at h3
      simp only [Bool.false_eq_true, if_false, List.nil_append] at h3
      exact hop i h3 (by unfold flatLev; rw [hb]; simp) (by unfold baseN; rw [hb]; simp; omega)
    · rw [hb] at h3
      simp only [if_true, List.cons_append, List.nil_append] at h3
      match i, h3, hop with
      | 0, h3, _ =>
        simp only [List.getElem?_cons_zero, Option.some.injEq] at h3
        subst h3
        obtain ⟨x, l1, rfl, hx, hk⟩ := vts_cons h5
        obtain ⟨y, l2, rfl, hy, hk⟩ := vts_cons hk
        obtain ⟨z, rfl, hz⟩ := vts_one hk
        exact ⟨t.levels.length, levE_of (i := 1) (by unfold flatLev; rw [hb]; rfl) rfl, Nat.le_refl _, .brk rfl rfl hb y hy (by rw [vt_leaf hx, vt_leaf hz]; rfl)⟩
      | i + 1, h3, hop =>
        simp only [List.getElem?_cons_succ] at h3
        exact hop i h3 (by unfold flatLev; rw [hb]; simp) (by unfold baseN; rw [hb]; simp; omega)

/-- What the climber comes to in some number of nested calls. -/
def ParE (t : Table) (w : List Int) (k p : Nat) (r : Res) : Prop := ∃ n, Par t w (rulOf t) n k p r
theorem Opd.fin {t : Table} {w : List Int} {p : Nat} {r : Res} (h : Opd t w (ParE t w) p r) : ∃ n, Opd t w (Par t w (rulOf t) n) p r := by
  cases h with
  | atom a b => exact ⟨0, .atom a b⟩
  | none a b => exact ⟨0, .none a b⟩
  | brk a b c d e f => obtain ⟨n, e⟩ := e; exact ⟨n, .brk a b c d e f⟩
  | brkNo a b c d e f => obtain ⟨n, e⟩ := e; exact ⟨n, .brkNo a b c d e f⟩
  | brkRej a b c d => obtain ⟨n, d⟩ := d; exact ⟨n, .brkRej a b c d⟩
theorem Lp.fin {t : Table} {w : List Int} {l : Level} {k : Nat} {x : Tree} {q : Nat} {r : Res} (h : Lp w (rulOf t) (ParE t w) l k x q r) : ∃ n, Lp w (rulOf t) (Par t w (rulOf t) n) l k x q r := by
  induction h with
  | stop x q a => exact ⟨0, .stop x q a⟩
  | rej x q q' op a b c => obtain ⟨n, c⟩ := c; exact ⟨n, .rej x q q' op a b c⟩
  | one x y q q' op a b c d => obtain ⟨n, d⟩ := d; exact ⟨n, .one x y q q' op a b c d⟩
  | more x y q q' op r a b c d e ih =>
    obtain ⟨n, d⟩ := d
    obtain ⟨m, ih⟩ := ih
    exact ⟨max n m, .more x y q q' op r a b c (Par.le (Nat.le_max_left n m) d) (ih.mono fun k p r h => Par.le (Nat.le_max_right n m) h)⟩
theorem ParE.step {t : Table} {w : List Int} {k p : Nat} {r : Res} (h : ParS t w (rulOf t) (ParE t w) k p r) : ParE t w k p r := by
  cases h with
  | opd a r b => obtain ⟨n, b⟩ := b.fin; exact ⟨n + 1, .opd a _ b⟩
  | skip l a b c r d => obtain ⟨n, d⟩ := d; exact ⟨n + 1, .skip l a b c _ d⟩
  | pre l a b op c d y q e => obtain ⟨n, e⟩ := e; exact ⟨n + 1, .pre l a b op c d y q e⟩
  | preRej l a b op c d q e => obtain ⟨n, e⟩ := e; exact ⟨n + 1, .preRej l a b op c d q e⟩
  | infRej l a b q c => obtain ⟨n, c⟩ := c; exact ⟨n + 1, .infRej l a b q c⟩
  | inf l a b x q c r d =>
    obtain ⟨n, c⟩ := c
    obtain ⟨m, d⟩ := d.fin
    exact ⟨max n m + 1, .inf l a b x q (Par.le (Nat.le_max_left n m) c) _ (d.mono fun k p r h => Par.le (Nat.le_max_right n m) h)⟩

/-- What follows begins with no operator of the level k or behind it. -/
def NF (t : Table) (k : Nat) (post : List Int) : Prop := ∀ o, post.head? = some o → ∀ (j : Nat) (l : Level), k ≤ j → t.levels[j]? = some l → o ∉ l.ops
theorem NF.le {t : Table} {k k' : Nat} {post : List Int} (h : NF t k post) (hk : k ≤ k') : NF t k' post := fun o ho j l hj hl => h o ho j l (by omega) hl
theorem drop_head {w a b : List Int} {p : Nat} (h : w.drop p = a ++ b) : w[p + a.length]? = b.head? := by
  have h1 : (w.drop p)[a.length]? = (a ++ b)[a.length]? := by rw [h]
  rw [List.getElem?_drop] at h1
  rw [h1, List.getElem?_append_right (Nat.le_refl _), Nat.sub_self]
  cases b <;> simp
theorem drop_more {w a b : List Int} {p : Nat} (h : w.drop p = a ++ b) : w.drop (p + a.length) = b := by
  rw [← List.drop_drop, h, List.drop_left]
theorem descend {t : Table} {w : List Int} {lev p q : Nat} {x : Tree} (hL : lev ≤ t.levels.length) (h : ParE t w lev p (.ok x q)) (hF : ∀ o, w[p]? = some o → ∀ (j : Nat) (l : Level), j < lev → t.levels[j]? = some l → o ∉ l.ops) : ∀ (d k : Nat), k + d = lev → (∀ o, w[q]? = some o → ∀ (j : Nat) (l : Level), k ≤ j → t.levels[j]? = some l → o ∉ l.ops) → ParE t w k p (.ok x q)
  | 0, k, hk, _ => by have : k = lev := by omega
                      subst this; exact h
  | d + 1, k, hk, hN => by
    have ih := descend hL h hF d (k + 1) (by omega) (fun o ho j l hj hl => hN o ho j l (by omega) hl)
    obtain ⟨l, hl⟩ := get_some (show k < t.levels.length by omega)
    by_cases h3 : l.kind = 3
    · exact ParE.step (.skip l hl h3 (fun o ho => hF o ho k l (by omega) hl) _ ih)
    · exact ParE.step (.inf l hl h3 x q ih _ (.stop x q (fun o ho => hN o ho k l (Nat.le_refl _) hl)))

/-- The marks and the operators are apart. -/
structure Apart (t : Table) : Prop where
  atom : ∀ (j : Nat) (l : Level), t.levels[j]? = some l → t.atom ∉ l.ops
  opn : brk t = true → ∀ (j : Nat) (l : Level), t.levels[j]? = some l → t.opn ∉ l.ops
  cls : brk t = true → ∀ (j : Nat) (l : Level), t.levels[j]? = some l → t.cls ∉ l.ops
  ao : brk t = true → t.atom ≠ t.opn
  oo : ∀ (i j : Nat) (a b : Level) (x : Int), t.levels[i]? = some a → t.levels[j]? = some b → x ∈ a.ops → x ∈ b.ops → i = j
theorem Valid.apart {t : Table} (hv : Valid t) : Apart t := by
  have h1 := List.nodup_cons.1 hv.nodup
  have hm : ∀ (j : Nat) (l : Level) (x : Int), t.levels[j]? = some l → x ∈ l.ops → x ∈ (t.levels.map Level.ops).flatten := fun j l x hl hx => List.mem_flatten.2 ⟨l.ops, List.mem_map.2 ⟨l, List.mem_of_getElem? hl, rfl⟩, hx⟩
  refine ⟨fun j l hl h => h1.1 ?_, fun hb j l hl h => ?_, fun hb j l hl h => ?_, fun hb e => h1.1 ?_, fun i j a b x ha hb hxa hxb => ops_apart t.levels i j a b x hv.opsN ha hb hxa hxb⟩
  · unfold allOps; exact List.mem_append.2 (.inr (hm j l _ hl h))
  · have h2 := h1.2
    unfold allOps at h2
    rw [if_pos hb] at h2
    exact (List.nodup_append.1 h2).2.2 t.opn (by simp) t.opn (hm j l _ hl h) rfl
  · have h2 := h1.2
    unfold allOps at h2
    rw [if_pos hb] at h2
    exact (List.nodup_append.1 h2).2.2 t.cls (by simp) t.cls (hm j l _ hl h) rfl
  · rw [e]; unfold allOps; rw [if_pos hb]; simp

theorem leaf_yield (a : Int) : yieldT (leafT a) = [a] := by simp [leafT, yieldT]
/-- What holds of a flat tree that respects the levels. -/
structure ClOk (t : Table) (w : List Int) (x : Tree) (lev : Nat) : Prop where
  levIs : levE t x.rule = (lev : Int)
  le : lev ≤ t.levels.length
  first : ∃ o rest, yieldT x = o :: rest ∧ ∀ (j : Nat) (l : Level), j < lev → t.levels[j]? = some l → o ∉ l.ops
  par : ∀ (p : Nat) (post : List Int), w.drop p = yieldT x ++ post → ∀ k, k ≤ lev → NF t k post → ParE t w k p (.ok x (p + (yieldT x).length))
  left : ∀ (p : Nat) (post : List Int), w.drop p = yieldT x ++ post → ∀ (l : Level), t.levels[lev]? = some l → l.kind = 1 → NF t (lev + 1) post → ∃ a0 q0, ParE t w (lev + 1) p (.ok a0 q0) ∧ ∀ r, Lp w (rulOf t) (ParE t w) l lev x (p + (yieldT x).length) r → Lp w (rulOf t) (ParE t w) l lev a0 q0 r
theorem first_at {w : List Int} {p : Nat} {x : Tree} {post : List Int} {o : Int} {rest : List Int} (h : w.drop p = yieldT x ++ post) (hy : yieldT x = o :: rest) : w[p]? = some o := by
  have := drop_head (a := []) (b := o :: (rest ++ post)) (show w.drop p = [] ++ (o :: (rest ++ post)) by rw [h, hy]; rfl)
  simpa using this
theorem ClOk.of_lev {t : Table} {w : List Int} {x : Tree} {lev : Nat} (h1 : levE t x.rule = (lev : Int)) (h2 : lev ≤ t.levels.length) (h3 : ∃ o rest, yieldT x = o :: rest ∧ ∀ (j : Nat) (l : Level), j < lev → t.levels[j]? = some l → o ∉ l.ops)
    (h4 : ∀ (p : Nat) (post : List Int), w.drop p = yieldT x ++ post → NF t lev post → ParE t w lev p (.ok x (p + (yieldT x).length)))
    (h5 : ∀ (p : Nat) (post : List Int), w.drop p = yieldT x ++ post → ∀ (l : Level), t.levels[lev]? = some l → l.kind = 1 → NF t (lev + 1) post → ∃ a0 q0, ParE t w (lev + 1) p (.ok a0 q0) ∧ ∀ r, Lp w (rulOf t) (ParE t w) l lev x (p + (yieldT x).length) r → Lp w (rulOf t) (ParE t w) l lev a0 q0 r) : ClOk t w x lev := by
  refine ⟨h1, h2, h3, fun p post hp k hk hn => ?_, h5⟩
  obtain ⟨o, rest, ho, hno⟩ := h3
  refine descend h2 (h4 p post hp (hn.le hk)) (fun o' ho' j l hj hl => ?_) (lev - k) k (by omega) (fun o' ho' j l hj hl => ?_)
  · rw [first_at hp ho] at ho'
    injection ho' with e
    exact e ▸ hno j l hj hl
  · rw [drop_head hp] at ho'
    exact hn o' ho' j l hj hl

theorem allow_par {t : Table} (hv : Valid t) {f : Gram} (hf : f.rules = flatRules t) (w : List Int) : ∀ (x : Tree), vt f x ⟨false, 0⟩ → allowE t x = true → ∃ lev, ClOk t w x lev := by
  refine Tree.ind ?_
  intro r z ks ih h hall
  obtain ⟨rfl, hr, v, hlev, hvL, hk⟩ := flat_nodeC hv hf h
  have ap := hv.apart
  have hy : yieldT ⟨r, 0, ks⟩ = yields ks := by rw [yieldT, if_neg (by omega)]
  rw [allowE, if_neg (by omega)] at hall
  simp only [Bool.and_eq_true] at hall
  obtain ⟨hks, hnode⟩ := hall
  refine ⟨v, ?_⟩
  cases hk with
  | atom hL hr0 e =>
    subst hr0; subst e; subst hL
    rw [show yields [leafT t.atom] = [t.atom] by simp [yields, leaf_yield]] at hy
    refine ClOk.of_lev hlev hvL ⟨t.atom, [], hy, fun j l _ hl => ap.atom j l hl⟩ (fun p post hp hn => ?_) (fun p post hp l hl => by simp at hl)
    have hw := first_at hp hy
    rw [hy]
    refine ParE.step (.opd rfl _ (.atom ?_ hw))
    rintro ⟨hb, ho⟩
    rw [hw] at ho
    exact ap.ao hb (by injection ho)
  | brk hL hr1 hb y hyv e =>
    subst hr1; subst e; subst hL
    rw [show yields [leafT t.opn, y, leafT t.cls] = t.opn :: (yieldT y ++ [t.cls]) by simp [yields, leaf_yield]] at hy
    simp [allowEs] at hks
    obtain ⟨ly, oy⟩ := ih y (by simp) hyv hks.2.1
    refine ClOk.of_lev hlev hvL ⟨t.opn, _, hy, fun j l _ hl => ap.opn hb j l hl⟩ (fun p post hp hn => ?_) (fun p post hp l hl => by simp at hl)
    have hw := first_at hp hy
    have hp1 : w.drop (p + 1) = yieldT y ++ (t.cls :: post) := by
      have := drop_more (w := w) (p := p) (a := [t.opn]) (b := yieldT y ++ (t.cls :: post)) (by rw [hp, hy]; simp)
      simpa using this
    have h1 := oy.par (p + 1) _ hp1 0 (Nat.zero_le _) (fun o ho j l _ hl => by simp at ho; subst ho; exact ap.cls hb j l hl)
    have hc := drop_head hp1
    rw [hy, show p + (t.opn :: (yieldT y ++ [t.cls])).length = p + 1 + (yieldT y).length + 1 by simp; omega]
    exact ParE.step (.opd rfl _ (.brk hb hw y _ h1 (by rw [hc]; rfl)))
  | pre l op hl ho h3 hrr y hyv e =>
    subst e
    rw [show yields [leafT op, y] = op :: yieldT y by simp [yields, leaf_yield]] at hy
    simp [allowEs] at hks
    obtain ⟨ly, oy⟩ := ih y (by simp) hyv hks.2
    have hly : v ≤ ly := by
      unfold nodeE at hnode
      rw [hlev] at hnode
      simp only [Int.toNat_natCast, hl, h3] at hnode
      have e1 : lastT [leafT op, y] = y := rfl
      rw [e1, oy.levIs] at hnode
      simp at hnode
      omega
    refine ClOk.of_lev hlev hvL ⟨op, _, hy, fun j l' hj hl' h => by have := ap.oo j v l' l op hl' hl h ho; omega⟩ (fun p post hp hn => ?_) (fun p post hp l' hl' h1 => by rw [hl] at hl'; injection hl' with e; subst e; omega)
    have hw := first_at hp hy
    have hp1 : w.drop (p + 1) = yieldT y ++ post := by
      have := drop_more (w := w) (p := p) (a := [op]) (b := yieldT y ++ post) (by rw [hp, hy]; simp)
      simpa using this
    have h1 := oy.par (p + 1) _ hp1 v hly hn
    rw [hy, show p + (op :: yieldT y).length = p + 1 + (yieldT y).length by simp; omega, hrr]
    exact ParE.step (.pre l hl h3 op hw ho y _ h1)
  | inf l op hl ho h3 hrr a y hav hyv e =>
    subst e
    rw [show yields [a, leafT op, y] = yieldT a ++ (op :: yieldT y) by simp [yields, leaf_yield]] at hy
    simp [allowEs] at hks
    obtain ⟨la, oa⟩ := ih a (by simp) hav hks.1
    obtain ⟨ly, oy⟩ := ih y (by simp) hyv hks.2.2
    have hlv : (if l.kind = 2 then v else v + 1) ≤ ly ∧ (if l.kind = 1 then v else v + 1) ≤ la := by
      unfold nodeE at hnode
      rw [hlev] at hnode
      simp only [Int.toNat_natCast, hl] at hnode
      have e1 : lastT [a, leafT op, y] = y := rfl
      have e2 : headT [a, leafT op, y] = a := rfl
      rw [e1, e2, oy.levIs, oa.levIs] at hnode
      simp only [Bool.and_eq_true, Bool.or_eq_true, decide_eq_true_eq] at hnode
      obtain ⟨n1, n2⟩ := hnode
      rcases n2 with n2 | n2
      · exact absurd n2 h3
      · constructor
        · split at n1 <;> split <;> omega
        · split at n2 <;> split <;> omega
    have hva : v ≤ la := by have := hlv.2; split at this <;> omega
    have hopn : ∀ post', NF t (v + 1) (op :: post') := fun post' o ho' j l' hj hl' h => by
      simp at ho'; subst ho'
      have := ap.oo j v l' l op hl' hl h ho; omega
    obtain ⟨o1, rest1, hf1, hf2⟩ := oa.first
    have hsplit : ∀ (p : Nat) (post : List Int), w.drop p = yieldT ⟨r, 0, [a, leafT op, y]⟩ ++ post → w.drop p = yieldT a ++ (op :: (yieldT y ++ post)) ∧ w[p + (yieldT a).length]? = some op ∧ w.drop (p + (yieldT a).length + 1) = yieldT y ++ post := by
      intro p post hp
      have h1 : w.drop p = yieldT a ++ (op :: (yieldT y ++ post)) := by rw [hp, hy]; simp
      have h2 := drop_more h1
      refine ⟨h1, by rw [drop_head h1]; rfl, ?_⟩
      have := drop_more (w := w) (p := p + (yieldT a).length) (a := [op]) (b := yieldT y ++ post) (by rw [h2]; simp)
      simpa using this
    have hlen : ∀ p : Nat, p + (yieldT ⟨r, 0, [a, leafT op, y]⟩).length = p + (yieldT a).length + 1 + (yieldT y).length := fun p => by rw [hy]; simp; omega
    have hleft : ∀ (p : Nat) (post : List Int), w.drop p = yieldT ⟨r, 0, [a, leafT op, y]⟩ ++ post → l.kind = 1 → NF t (v + 1) post → ∃ a0 q0, ParE t w (v + 1) p (.ok a0 q0) ∧ ∀ r', Lp w (rulOf t) (ParE t w) l v ⟨r, 0, [a, leafT op, y]⟩ (p + (yieldT ⟨r, 0, [a, leafT op, y]⟩).length) r' → Lp w (rulOf t) (ParE t w) l v a0 q0 r' := by
      intro p post hp h1 hn
      obtain ⟨s1, s2, s3⟩ := hsplit p post hp
      have hy1 : ParE t w (if l.kind = 2 then v else v + 1) (p + (yieldT a).length + 1) (.ok y (p + (yieldT a).length + 1 + (yieldT y).length)) :=
        oy.par _ post s3 _ hlv.1 (by rw [if_neg (by omega)]; exact hn)
      have hmore : ∀ r', Lp w (rulOf t) (ParE t w) l v ⟨r, 0, [a, leafT op, y]⟩ (p + (yieldT ⟨r, 0, [a, leafT op, y]⟩).length) r' → Lp w (rulOf t) (ParE t w) l v a (p + (yieldT a).length) r' := fun r' hr' => by
        rw [hlen, hrr] at hr'
        exact .more a y _ _ op r' s2 ho h1 hy1 hr'
      rcases Nat.lt_or_ge v la with hlt | hge
      · exact ⟨a, _, oa.par p _ s1 (v + 1) hlt (hopn _), hmore⟩
      · have e : la = v := by omega
        subst e
        obtain ⟨a0, q0, g1, g2⟩ := oa.left p _ s1 l hl h1 (hopn _)
        exact ⟨a0, q0, g1, fun r' hr' => g2 r' (hmore r' hr')⟩
    refine ClOk.of_lev hlev hvL ⟨o1, rest1 ++ (op :: yieldT y), by rw [hy, hf1]; rfl, fun j l' hj hl' => hf2 j l' (by omega) hl'⟩ (fun p post hp hn => ?_) (fun p post hp l' hl' h1 hn => ?_)
    · by_cases h1 : l.kind = 1
      · obtain ⟨a0, q0, g1, g2⟩ := hleft p post hp h1 (hn.le (by omega))
        refine ParE.step (.inf l hl h3 a0 q0 g1 _ (g2 _ (.stop _ _ fun o ho' => ?_)))
        rw [drop_head hp] at ho'
        exact hn o ho' v l (Nat.le_refl _) hl
      · obtain ⟨s1, s2, s3⟩ := hsplit p post hp
        have hy1 : ParE t w (if l.kind = 2 then v else v + 1) (p + (yieldT a).length + 1) (.ok y (p + (yieldT a).length + 1 + (yieldT y).length)) :=
          oy.par _ post s3 _ hlv.1 (hn.le (by split <;> omega))
        have ha1 := oa.par p _ s1 (v + 1) (by have := hlv.2; rw [if_neg h1] at this; exact this) (hopn _)
        rw [hlen, hrr]
        exact ParE.step (.inf l hl h3 a _ ha1 _ (.one a y _ _ op s2 ho h1 hy1))
    · rw [hl] at hl'; injection hl' with e; subst e
      exact hleft p post hp h1 hn
/-- The whole word. -/
theorem allow_climb {t : Table} (hv : Valid t) {f : Gram} (hf : f.rules = flatRules t) {x : Tree} (h : vt f x ⟨false, 0⟩) (ha : allowE t x = true) : ParE t (yieldT x) 0 0 (.ok x (yieldT x).length) := by
  obtain ⟨lev, o⟩ := allow_par hv hf (yieldT x) x h ha
  have := o.par 0 [] (by simp) 0 (Nat.zero_le _) (fun o ho => by simp at ho)
  simpa using this
end Go.Proofs.YtjdojogjogenkaaDoor

/- Plain law: the climber comes to something, whatever the word. No program is named here. -/
namespace Go.Proofs.YtjdojogjogenkaaDoor
open Go.RowKit
set_option linter.unusedVariables false

def Ahead (n p : Nat) : Res → Prop
  | .ok _ q => p < q ∧ q ≤ n
  | .rej q => p ≤ q ∧ q ≤ n
theorem lp_total {t : Table} {w : List Int} {lv : Level} {k p : Nat} (hP : ∀ p1, p < p1 → p1 ≤ w.length → ∃ r, ParE t w (if lv.kind = 2 then k else k + 1) p1 r ∧ Ahead w.length p1 r) : ∀ (m : Nat) (x : Tree) (q : Nat), w.length - q ≤ m → p < q → q ≤ w.length → ∃ r, Lp w (rulOf t) (ParE t w) lv k x q r ∧ Ahead w.length p r
  | m, x, q, hm, hpq, hq => by
    by_cases hop : ∃ o, w[q]? = some o ∧ o ∈ lv.ops
    · obtain ⟨o, ho, hmem⟩ := hop
      have hlt := (List.getElem?_eq_some_iff.1 ho).1
      obtain ⟨r, hr, ha⟩ := hP (q + 1) (by omega) (by omega)
      cases r with
      | rej q' => exact ⟨_, .rej x q q' o ho hmem hr, by have := ha.1; have := ha.2; exact ⟨by omega, by omega⟩⟩
      | ok y q' =>
        have h1 := ha.1
        have h2 := ha.2
        by_cases hk : lv.kind = 1
        · match m, hm with
          | 0, hm => omega
          | m + 1, hm =>
            obtain ⟨r, hr', ha'⟩ := lp_total hP m ⟨rulOf t o, 0, [x, leafT o, y]⟩ q' (by omega) (by omega) (by omega)
            exact ⟨r, .more x y q q' o r ho hmem hk hr hr', ha'⟩
        · exact ⟨_, .one x y q q' o ho hmem hk hr, ⟨by omega, by omega⟩⟩
    · exact ⟨_, .stop x q (fun o ho hm => hop ⟨o, ho, hm⟩), ⟨by omega, by omega⟩⟩
theorem par_total (t : Table) (w : List Int) : ∀ (m d k p : Nat), w.length - p ≤ m → k + d = t.levels.length → p ≤ w.length → ∃ r, ParE t w k p r ∧ Ahead w.length p r
  | m, 0, k, p, hm, hk, hp => by
    have hkL : k = t.levels.length := by omega
    by_cases hbo : brk t = true ∧ w[p]? = some t.opn
    · have hlt := (List.getElem?_eq_some_iff.1 hbo.2).1
      match m, hm with
      | 0, hm => omega
      | m + 1, hm =>
        obtain ⟨r, hr, ha⟩ := par_total t w m t.levels.length 0 (p + 1) (by omega) (by omega) (by omega)
        cases r with
        | rej q => exact ⟨_, ParE.step (.opd hkL _ (.brkRej hbo.1 hbo.2 q hr)), ⟨by have := ha.1; omega, ha.2⟩⟩
        | ok x q =>
          have h1 := ha.1
          have h2 := ha.2
          by_cases hc : w[q]? = some t.cls
          · have := (List.getElem?_eq_some_iff.1 hc).1
            exact ⟨_, ParE.step (.opd hkL _ (.brk hbo.1 hbo.2 x q hr hc)), ⟨by omega, by omega⟩⟩
          · exact ⟨_, ParE.step (.opd hkL _ (.brkNo hbo.1 hbo.2 x q hr hc)), ⟨by omega, by omega⟩⟩
    · by_cases ha : w[p]? = some t.atom
      · have := (List.getElem?_eq_some_iff.1 ha).1
        exact ⟨_, ParE.step (.opd hkL _ (.atom hbo ha)), ⟨by omega, by omega⟩⟩
      · exact ⟨_, ParE.step (.opd hkL _ (.none hbo ha)), ⟨by omega, by omega⟩⟩
  | m, d + 1, k, p, hm, hk, hp => by
    obtain ⟨lv, hl⟩ := get_some (show k < t.levels.length by omega)
    by_cases h3 : lv.kind = 3
    · by_cases hop : ∃ o, w[p]? = some o ∧ o ∈ lv.ops
      · obtain ⟨o, ho, hmem⟩ := hop
        have hlt := (List.getElem?_eq_some_iff.1 ho).1
        match m, hm with
        | 0, hm => omega
        | m + 1, hm =>
          obtain ⟨r, hr, ha⟩ := par_total t w m (d + 1) k (p + 1) (by omega) hk (by omega)
          cases r with
          | rej q => exact ⟨_, ParE.step (.preRej lv hl h3 o ho hmem q hr), ⟨by have := ha.1; omega, ha.2⟩⟩
          | ok y q => exact ⟨_, ParE.step (.pre lv hl h3 o ho hmem y q hr), ⟨by have := ha.1; omega, ha.2⟩⟩
      · obtain ⟨r, hr, ha⟩ := par_total t w m d (k + 1) p hm (by omega) hp
        exact ⟨r, ParE.step (.skip lv hl h3 (fun o ho hmm => hop ⟨o, ho, hmm⟩) r hr), ha⟩
    · obtain ⟨r, hr, ha⟩ := par_total t w m d (k + 1) p hm (by omega) hp
      cases r with
      | rej q => exact ⟨_, ParE.step (.infRej lv hl h3 q hr), ha⟩
      | ok x q =>
        have h1 := ha.1
        have h2 := ha.2
        match m, hm with
        | 0, hm => omega
        | m + 1, hm =>
          obtain ⟨r, hL, ha'⟩ := lp_total (t := t) (w := w) (lv := lv) (k := k) (p := p) (fun p1 hp1 hp2 => by
            by_cases h2 : lv.kind = 2
            · rw [if_pos h2]; exact par_total t w m (d + 1) k p1 (by omega) hk hp2
            · rw [if_neg h2]; exact par_total t w m d (k + 1) p1 (by omega) (by omega) hp2) w.length x q (by omega) h1 h2
          exact ⟨r, ParE.step (.inf lv hl h3 x q hr r hL), ha'⟩
theorem climb_total (t : Table) (w : List Int) : ∃ r, ParE t w 0 0 r ∧ Ahead w.length 0 r := par_total t w w.length t.levels.length 0 0 (by omega) (by omega) (by omega)
end Go.Proofs.YtjdojogjogenkaaDoor

/- Plain law: the flat trees of a word, by levels; what the climber comes to at a word is such a tree, or the place up to which the word begins one. No program is named here. -/
namespace Go.Proofs.YtjdojogjogenkaaDoor
open Go.RowKit
set_option linter.unusedVariables false

/-- x is a flat tree of the word whose level is k or behind it. -/
inductive Lv (t : Table) : Nat → Tree → List Int → Prop where
  | atom (k : Nat) : Lv t k ⟨0, 0, [leafT t.atom]⟩ [t.atom]
  | brk (k : Nat) (hb : brk t = true) (x : Tree) (u : List Int) (h : Lv t 0 x u) : Lv t k ⟨1, 0, [leafT t.opn, x, leafT t.cls]⟩ (t.opn :: (u ++ [t.cls]))
  | pre (k i : Nat) (l : Level) (op : Int) (y : Tree) (v : List Int) (hk : k ≤ i) (hl : t.levels[i]? = some l) (h3 : l.kind = 3) (ho : op ∈ l.ops) (hy : Lv t i y v) : Lv t k ⟨rulOf t op, 0, [leafT op, y]⟩ (op :: v)
  | inf (k i : Nat) (l : Level) (op : Int) (x y : Tree) (u v : List Int) (hk : k ≤ i) (hl : t.levels[i]? = some l) (h3 : l.kind ≠ 3) (ho : op ∈ l.ops) (hx : Lv t (if l.kind = 1 then i else i + 1) x u) (hy : Lv t (if l.kind = 2 then i else i + 1) y v) : Lv t k ⟨rulOf t op, 0, [x, leafT op, y]⟩ (u ++ op :: v)
theorem Lv.le {t : Table} {k j : Nat} {x : Tree} {u : List Int} (h : Lv t k x u) (hj : j ≤ k) : Lv t j x u := by
  cases h with
  | atom => exact .atom j
  | brk _ hb x u h => exact .brk j hb x u h
  | pre _ i l op y v hk hl h3 ho hy => exact .pre j i l op y v (by omega) hl h3 ho hy
  | inf _ i l op x y u v hk hl h3 ho hx hy => exact .inf j i l op x y u v (by omega) hl h3 ho hx hy
theorem Lv.ne {t : Table} {k : Nat} {x : Tree} {u : List Int} (h : Lv t k x u) : 0 < u.length := by
  cases h <;> (simp only [List.length_append, List.length_cons, List.length_nil]; omega)
theorem op_at : ∀ (ls : List Level) (k i : Nat) (l : Level) (op : Int), ls[i]? = some l → op ∈ l.ops → ∃ m : Nat, ((ls.map Level.ops).flatten)[m]? = some op ∧ ((ls.map levRules).flatten)[m]? = some (opRule l.kind op) ∧ (levFrom k ls)[m]? = some ((k + i : Nat) : Int)
  | [], _, i, l, op, h, _ => by simp at h
  | a :: ls, k, 0, l, op, h, ho => by
    simp at h
    subst h
    obtain ⟨m, hm⟩ := List.getElem?_of_mem ho
    have hlt := (List.getElem?_eq_some_iff.1 hm).1
    refine ⟨m, ?_, ?_, ?_⟩
    · simp only [List.map_cons, List.flatten_cons]; rw [List.getElem?_append_left hlt]; exact hm
    · simp only [List.map_cons, List.flatten_cons]; rw [List.getElem?_append_left (by simpa [levRules] using hlt)]; simp [levRules, hm]
    · unfold levFrom; rw [List.getElem?_append_left (by simpa using hlt)]; simp [hm]
  | a :: ls, k, i + 1, l, op, h, ho => by
    obtain ⟨m, h1, h2, h3⟩ := op_at ls (k + 1) i l op (by simpa using h) ho
    refine ⟨a.ops.length + m, ?_, ?_, ?_⟩
    · simp only [List.map_cons, List.flatten_cons]; rw [List.getElem?_append_right (by omega), Nat.add_sub_cancel_left]; exact h1
    · simp only [List.map_cons, List.flatten_cons]; rw [List.getElem?_append_right (by simp [levRules])]; simp only [levRules, List.length_map, Nat.add_sub_cancel_left]; exact h2
    · unfold levFrom; rw [List.getElem?_append_right (by simp)]; simp only [List.length_map, Nat.add_sub_cancel_left]; rw [h3]; congr 2; omega
theorem rul_at {t : Table} (hv : Valid t) {i : Nat} {l : Level} {op : Int} (hl : t.levels[i]? = some l) (ho : op ∈ l.ops) : (flatRules t)[(rulOf t op).toNat]? = some (opRule l.kind op) ∧ levE t (rulOf t op) = (i : Int) ∧ 0 ≤ rulOf t op := by
  obtain ⟨m, h1, h2, h3⟩ := op_at t.levels 0 i l op hl ho
  have e : rulOf t op = ((baseN t + m : Nat) : Int) := by unfold rulOf; rw [idx_of_nodup (opsL t) m op hv.opsN h1]
  rw [e]
  refine ⟨?_, ?_, by omega⟩
  · rw [Int.toNat_natCast]
    unfold flatRules baseN
    cases hb : brk t
    · simp only [Bool.false_eq_true, if_false, List.nil_append]; rw [Nat.add_comm, List.getElem?_cons_succ]; exact h2
    · simp only [if_true, List.cons_append, List.nil_append]; rw [show 2 + m = m + 1 + 1 by omega, List.getElem?_cons_succ, List.getElem?_cons_succ]; exact h2
  · unfold levE
    rw [Int.toNat_natCast, List.getD_eq_getElem?_getD]
    unfold flatLev baseN
    cases hb : brk t
    · simp only [Bool.false_eq_true, if_false, List.nil_append]; rw [Nat.add_comm, List.getElem?_cons_succ, h3]; simp
    · simp only [if_true, List.cons_append, List.nil_append]; rw [show 2 + m = m + 1 + 1 by omega, List.getElem?_cons_succ, List.getElem?_cons_succ, h3]; simp
theorem vt_leafT (g : Gram) (a : Int) : vt g (leafT a) ⟨true, a⟩ := by unfold leafT vt; simp
/-- Such a tree is a tree of the flat grammar, respects the levels, and has the word. -/
theorem Lv.flat {t : Table} (hv : Valid t) {f : Gram} (hf : f.rules = flatRules t) {k : Nat} {x : Tree} {u : List Int} (h : Lv t k x u) (hkl : k ≤ t.levels.length) : vt f x ⟨false, 0⟩ ∧ allowE t x = true ∧ yieldT x = u ∧ (k : Int) ≤ levE t x.rule := by
  induction h with
  | atom k =>
    have hl0 : levE t 0 = (t.levels.length : Int) := by simp [levE, flatLev]
    refine ⟨?_, ?_, by simp [yieldT, yields, leaf_yield], by show (k : Int) ≤ levE t 0; rw [hl0]; omega⟩
    · unfold vt
      simp only [Bool.false_eq_true, if_false]
      exact ⟨trivial, by omega, ⟨0, [⟨true, t.atom⟩]⟩, by rw [hf]; simp [flatRules], rfl, by simp [vts, vt_leafT]⟩
    · simp [allowE, allowEs, leafT, nodeE, hl0]
  | brk k hb x u h ih =>
    obtain ⟨i1, i2, i3, i4⟩ := ih (by omega)
    have hl1 : levE t 1 = (t.levels.length : Int) := by simp [levE, flatLev, hb]
    refine ⟨?_, ?_, by simp [yieldT, yields, leaf_yield, i3], by show (k : Int) ≤ levE t 1; rw [hl1]; omega⟩
    · unfold vt
      simp only [Bool.false_eq_true, if_false]
      exact ⟨trivial, by omega, ⟨0, [⟨true, t.opn⟩, ⟨false, 0⟩, ⟨true, t.cls⟩]⟩, by rw [hf]; simp [flatRules, hb], rfl, by simp [vts, vt_leafT, i1]⟩
    · have e1 : allowE t (leafT t.opn) = true := by simp [leafT, allowE]
      have e2 : allowE t (leafT t.cls) = true := by simp [leafT, allowE]
      simp [allowE, allowEs, e1, e2, i2, nodeE, hl1]
  | pre k i l op y v hk hl h3 ho hy ih =>
    obtain ⟨g1, g2, g3⟩ := rul_at hv hl ho
    have hil := (List.getElem?_eq_some_iff.1 hl).1
    obtain ⟨i1, i2, i3, i4⟩ := ih (by omega)
    refine ⟨?_, ?_, ?_, by show (k : Int) ≤ levE t (rulOf t op); rw [g2]; omega⟩
    · unfold vt
      simp only [Bool.false_eq_true, if_false]
      exact ⟨trivial, g3, _, by rw [hf]; exact g1, rfl, by unfold opRule; simp [h3, vts, vt_leafT, i1]⟩
    · have e1 : allowE t (leafT op) = true := by simp [leafT, allowE]
      rw [allowE, if_neg (by omega)]
      simp only [allowEs, e1, i2, Bool.true_and]
      unfold nodeE
      rw [g2]
      simp only [Int.toNat_natCast, hl, h3]
      have e2 : lastT [leafT op, y] = y := rfl
      rw [e2]
      simp
      omega
    · rw [yieldT, if_neg (by omega)]; simp [yields, leaf_yield, i3]
  | inf k i l op x y u v hk hl h3 ho hx hy ihx ihy =>
    obtain ⟨g1, g2, g3⟩ := rul_at hv hl ho
    have hil := (List.getElem?_eq_some_iff.1 hl).1
    obtain ⟨i1, i2, i3, i4⟩ := ihx (by split <;> omega)
    obtain ⟨j1, j2, j3, j4⟩ := ihy (by split <;> omega)
    refine ⟨?_, ?_, ?_, by show (k : Int) ≤ levE t (rulOf t op); rw [g2]; omega⟩
    · unfold vt
      simp only [Bool.false_eq_true, if_false]
      exact ⟨trivial, g3, _, by rw [hf]; exact g1, rfl, by unfold opRule; simp [h3, vts, vt_leafT, i1, j1]⟩
    · have e1 : allowE t (leafT op) = true := by simp [leafT, allowE]
      rw [allowE, if_neg (by omega)]
      simp only [allowEs, e1, i2, j2, Bool.true_and]
      unfold nodeE
      rw [g2]
      simp only [Int.toNat_natCast, hl]
      have e2 : lastT [x, leafT op, y] = y := rfl
      have e3 : headT [x, leafT op, y] = x := rfl
      rw [e2, e3]
      simp only [Bool.and_eq_true, Bool.or_eq_true, decide_eq_true_eq]
      refine ⟨?_, .inr ?_⟩
      · by_cases h2 : l.kind = 2
        · rw [if_pos h2] at j4; rw [if_pos (.inl h2)]; omega
        · rw [if_neg h2] at j4; rw [if_neg (fun h => h.elim h2 h3)]; omega
      · by_cases h1 : l.kind = 1
        · rw [if_pos h1] at i4; rw [if_pos h1]; omega
        · rw [if_neg h1] at i4; rw [if_neg h1]; omega
    · rw [yieldT, if_neg (by omega)]; simp [yields, leaf_yield, i3, j3]
/-- So it is what the climber comes to at its word. -/
theorem Lv.par {t : Table} (hv : Valid t) {x : Tree} {u : List Int} (h : Lv t 0 x u) : ParE t u 0 0 (.ok x u.length) := by
  obtain ⟨h1, h2, h3, _⟩ := h.flat hv (f := ⟨0, 0, 0, flatRules t⟩) rfl (Nat.zero_le _)
  have := allow_climb hv (f := ⟨0, 0, 0, flatRules t⟩) rfl h1 h2
  rwa [h3] at this

/-! ### What the climber has read -/
def seg (w : List Int) (p q : Nat) : List Int := (w.drop p).take (q - p)
theorem seg_one {w : List Int} {p : Nat} {a : Int} (h : w[p]? = some a) : seg w p (p + 1) = [a] := by
  unfold seg
  rw [drop_cons h, Nat.add_sub_cancel_left]; rfl
theorem seg_add {w : List Int} {p q r : Nat} (h1 : p ≤ q) (h2 : q ≤ r) : seg w p r = seg w p q ++ seg w q r := by
  unfold seg
  rw [show r - p = (q - p) + (r - q) by omega, List.take_add, List.drop_drop, show p + (q - p) = q by omega]
theorem seg_self (w : List Int) (p : Nat) : seg w p p = [] := by simp [seg]
theorem seg_all (w : List Int) : seg w 0 w.length = w := by simp [seg]
theorem seg_zero (w : List Int) (q : Nat) : seg w 0 q = w.take q := by simp [seg]
/-- What a run says of the word: a tree of what it has read; or what it has read begins a word. -/
def Said (t : Table) (w : List Int) (k p : Nat) : Res → Prop
  | .ok x q => p < q ∧ q ≤ w.length ∧ Lv t k x (seg w p q)
  | .rej q => p ≤ q ∧ q ≤ w.length ∧ ∃ x r, Lv t k x (seg w p q ++ r)
theorem Said.le {t : Table} {w : List Int} {k j p : Nat} {r : Res} (h : Said t w k p r) (hj : j ≤ k) : Said t w j p r := by
  cases r with
  | ok x q => exact ⟨h.1, h.2.1, h.2.2.le hj⟩
  | rej q => obtain ⟨h1, h2, x, r, h3⟩ := h; exact ⟨h1, h2, x, r, h3.le hj⟩
theorem lp_said {t : Table} {w : List Int} {l : Level} {k p : Nat} {P : Nat → Nat → Res → Prop} (hl : t.levels[k]? = some l) (h3 : l.kind ≠ 3) (hP : ∀ k' p' r, P k' p' r → p' ≤ w.length → Said t w k' p' r) {x : Tree} {q : Nat} {r : Res} (h : Lp w (rulOf t) P l k x q r) :
    p < q → q ≤ w.length → Lv t (if l.kind = 1 then k else k + 1) x (seg w p q) → Said t w k p r := by
  induction h with
  | stop x q hn => intro hpq hq hx; exact ⟨hpq, hq, hx.le (by split <;> omega)⟩
  | rej x q q' op ho hm h =>
    intro hpq hq hx
    have hlt := (List.getElem?_eq_some_iff.1 ho).1
    obtain ⟨g1, g2, y, r, g3⟩ := hP _ _ _ h (by omega)
    refine ⟨by omega, g2, ⟨rulOf t op, 0, [x, leafT op, y]⟩, r, ?_⟩
    rw [seg_add (q := q) (by omega) (by omega), seg_add (p := q) (q := q + 1) (by omega) g1, seg_one ho]
    have := Lv.inf k k l op x y _ _ (Nat.le_refl _) hl h3 hm hx g3
    simpa using this
  | one x y q q' op ho hm hk h =>
    intro hpq hq hx
    have hlt := (List.getElem?_eq_some_iff.1 ho).1
    obtain ⟨g1, g2, g3⟩ := hP _ _ _ h (by omega)
    refine ⟨by omega, g2, ?_⟩
    rw [seg_add (q := q) (by omega) (by omega), seg_add (p := q) (q := q + 1) (by omega) (by omega), seg_one ho]
    exact Lv.inf k k l op x y _ _ (Nat.le_refl _) hl h3 hm hx g3
  | more x y q q' op r ho hm hk h hr ih =>
    intro hpq hq hx
    have hlt := (List.getElem?_eq_some_iff.1 ho).1
    obtain ⟨g1, g2, g3⟩ := hP _ _ _ h (by omega)
    refine ih (by omega) g2 ?_
    rw [seg_add (q := q) (by omega) (by omega), seg_add (p := q) (q := q + 1) (by omega) (by omega), seg_one ho]
    rw [if_pos hk]
    exact Lv.inf k k l op x y _ _ (Nat.le_refl _) hl h3 hm hx g3
theorem par_said {t : Table} {w : List Int} : ∀ (n k p : Nat) (r : Res), Par t w (rulOf t) n k p r → p ≤ w.length → Said t w k p r
  | 0, _, _, _, h, _ => h.elim
  | n + 1, k, p, r, h, hp => by
    have ih := par_said (t := t) (w := w) n
    have h' : ParS t w (rulOf t) (Par t w (rulOf t) n) k p r := h
    clear h
    cases h' with
    | opd hk r ho =>
      cases ho with
      | atom h ha =>
        have hlt := (List.getElem?_eq_some_iff.1 ha).1
        exact ⟨by omega, by omega, by rw [seg_one ha]; exact .atom k⟩
      | none h ha => exact ⟨Nat.le_refl _, hp, ⟨0, 0, [leafT t.atom]⟩, [t.atom], by rw [seg_self]; exact .atom k⟩
      | brk hb ho x q hx hc =>
        have hlt := (List.getElem?_eq_some_iff.1 ho).1
        have hlt2 := (List.getElem?_eq_some_iff.1 hc).1
        obtain ⟨g1, g2, g3⟩ := ih _ _ _ hx (by omega)
        refine ⟨by omega, by omega, ?_⟩
        rw [seg_add (q := p + 1) (by omega) (by omega), seg_add (p := p + 1) (q := q) (by omega) (by omega), seg_one ho, seg_one hc]
        exact .brk k hb x _ g3
      | brkNo hb ho x q hx hc =>
        have hlt := (List.getElem?_eq_some_iff.1 ho).1
        obtain ⟨g1, g2, g3⟩ := ih _ _ _ hx (by omega)
        refine ⟨by omega, g2, ⟨1, 0, [leafT t.opn, x, leafT t.cls]⟩, [t.cls], ?_⟩
        rw [seg_add (q := p + 1) (by omega) (by omega), seg_one ho]
        have := Lv.brk k hb x _ g3
        simpa using this
      | brkRej hb ho q hx =>
        have hlt := (List.getElem?_eq_some_iff.1 ho).1
        obtain ⟨g1, g2, x, r, g3⟩ := ih _ _ _ hx (by omega)
        refine ⟨by omega, g2, ⟨1, 0, [leafT t.opn, x, leafT t.cls]⟩, r ++ [t.cls], ?_⟩
        rw [seg_add (q := p + 1) (by omega) g1, seg_one ho]
        have := Lv.brk k hb x _ g3
        simpa using this
    | skip l hl h3 hn r h => exact (ih _ _ _ h hp).le (by omega)
    | pre l hl h3 op ho hm y q h =>
      have hlt := (List.getElem?_eq_some_iff.1 ho).1
      obtain ⟨g1, g2, g3⟩ := ih _ _ _ h (by omega)
      refine ⟨by omega, g2, ?_⟩
      rw [seg_add (q := p + 1) (by omega) (by omega), seg_one ho]
      exact .pre k k l op y _ (Nat.le_refl _) hl h3 hm g3
    | preRej l hl h3 op ho hm q h =>
      have hlt := (List.getElem?_eq_some_iff.1 ho).1
      obtain ⟨g1, g2, x, r, g3⟩ := ih _ _ _ h (by omega)
      refine ⟨by omega, g2, ⟨rulOf t op, 0, [leafT op, x]⟩, r, ?_⟩
      rw [seg_add (q := p + 1) (by omega) g1, seg_one ho]
      have := Lv.pre k k l op x _ (Nat.le_refl _) hl h3 hm g3
      simpa using this
    | infRej l hl h3 q h => exact (ih _ _ _ h hp).le (by omega)
    | inf l hl h3 x q h r hr =>
      obtain ⟨g1, g2, g3⟩ := ih _ _ _ h hp
      exact lp_said hl h3 (fun k' p' r h hp' => ih k' p' r h hp') hr g1 g2 (g3.le (by split <;> omega))

/-! ### Two words that are alike up to a place -/
def endR : Res → Nat
  | .ok _ q => q
  | .rej q => q
def Alike (w v : List Int) (q : Nat) : Prop := ∀ i, i ≤ q → w[i]? = v[i]?
theorem Alike.le {w v : List Int} {p q : Nat} (h : Alike w v q) (hp : p ≤ q) : Alike w v p := fun i hi => h i (by omega)
theorem opd_same {t : Table} (hao : brk t = true → t.atom ≠ t.opn) {w v : List Int} {P Q : Nat → Nat → Res → Prop} (hP : ∀ k p r r', P k p r → Q k p r' → Alike w v (endR r) → r = r') (hm : ∀ k p r, P k p r → p ≤ endR r) {p : Nat} {r r' : Res} (h : Opd t w P p r) (h' : Opd t v Q p r') (ha : Alike w v (endR r)) : r = r' := by
  have hp : p ≤ endR r := by
    cases h with
    | atom => show p ≤ p + 1; omega
    | none => exact Nat.le_refl _
    | brk hb ho x q hx hc => have := hm _ _ _ hx; show p ≤ q + 1; simp [endR] at this; omega
    | brkNo hb ho x q hx hc => have := hm _ _ _ hx; show p ≤ q; simp [endR] at this; omega
    | brkRej hb ho q hx => have := hm _ _ _ hx; show p ≤ q; simp [endR] at this; omega
  have e0 := ha p hp
  cases h with
  | atom h1 h2 =>
    cases h' with
    | atom => rfl
    | none g1 g2 => rw [e0] at h2; exact absurd h2 g2
    | brk hb ho x q hx hc => rw [← e0] at ho; exact absurd ⟨hb, ho⟩ h1
    | brkNo hb ho x q hx hc => rw [← e0] at ho; exact absurd ⟨hb, ho⟩ h1
    | brkRej hb ho q hx => rw [← e0] at ho; exact absurd ⟨hb, ho⟩ h1
  | none h1 h2 =>
    cases h' with
    | atom g1 g2 => rw [← e0] at g2; exact absurd g2 h2
    | none g1 g2 => rfl
    | brk hb ho x q hx hc => rw [← e0] at ho; exact absurd ⟨hb, ho⟩ h1
    | brkNo hb ho x q hx hc => rw [← e0] at ho; exact absurd ⟨hb, ho⟩ h1
    | brkRej hb ho q hx => rw [← e0] at ho; exact absurd ⟨hb, ho⟩ h1
  | brk hb ho x q hx hc =>
    have hmq := hm _ _ _ hx
    cases h' with
    | atom g1 g2 => rw [e0] at ho; exact absurd ⟨hb, ho⟩ g1
    | none g1 g2 => rw [e0] at ho; exact absurd ⟨hb, ho⟩ g1
    | brk hb' ho' x' q' hx' hc' =>
      have := hP _ _ _ _ hx hx' (ha.le (by show q ≤ q + 1; omega))
      injection this with e1 e2
      subst e1; subst e2; rfl
    | brkNo hb' ho' x' q' hx' hc' =>
      have := hP _ _ _ _ hx hx' (ha.le (by show q ≤ q + 1; omega))
      injection this with e1 e2
      subst e1; subst e2
      rw [ha q (by show q ≤ q + 1; omega)] at hc
      exact absurd hc hc'
    | brkRej hb' ho' q' hx' =>
      have := hP _ _ _ _ hx hx' (ha.le (by show q ≤ q + 1; omega))
      cases this
  | brkNo hb ho x q hx hc =>
    cases h' with
    | atom g1 g2 => rw [e0] at ho; exact absurd ⟨hb, ho⟩ g1
    | none g1 g2 => rw [e0] at ho; exact absurd ⟨hb, ho⟩ g1
    | brk hb' ho' x' q' hx' hc' =>
      have := hP _ _ _ _ hx hx' ha
      injection this with e1 e2
      subst e1; subst e2
      rw [← ha q (Nat.le_refl _)] at hc'
      exact absurd hc' hc
    | brkNo hb' ho' x' q' hx' hc' =>
      have := hP _ _ _ _ hx hx' ha
      injection this with e1 e2
      subst e1; subst e2; rfl
    | brkRej hb' ho' q' hx' =>
      have := hP _ _ _ _ hx hx' ha
      cases this
  | brkRej hb ho q hx =>
    cases h' with
    | atom g1 g2 => rw [e0] at ho; exact absurd ⟨hb, ho⟩ g1
    | none g1 g2 => rw [e0] at ho; exact absurd ⟨hb, ho⟩ g1
    | brk hb' ho' x' q' hx' hc' =>
      have := hP _ _ _ _ hx hx' ha
      cases this
    | brkNo hb' ho' x' q' hx' hc' =>
      have := hP _ _ _ _ hx hx' ha
      cases this
    | brkRej hb' ho' q' hx' => exact hP _ _ _ _ hx hx' ha
theorem lp_mono {w : List Int} {rul : Int → Int} {P : Nat → Nat → Res → Prop} (hm : ∀ k p r, P k p r → p ≤ endR r) {l : Level} {k : Nat} {x : Tree} {q : Nat} {r : Res} (h : Lp w rul P l k x q r) : q ≤ endR r := by
  induction h with
  | stop x q hn => exact Nat.le_refl _
  | rej x q q' op ho hm' h => have := hm _ _ _ h; simp [endR] at this ⊢; omega
  | one x y q q' op ho hm' hk h => have := hm _ _ _ h; simp [endR] at this ⊢; omega
  | more x y q q' op r ho hm' hk h hr ih => have := hm _ _ _ h; simp [endR] at this; omega
theorem lp_same {w v : List Int} {rul : Int → Int} {P Q : Nat → Nat → Res → Prop} (hP : ∀ k p r r', P k p r → Q k p r' → Alike w v (endR r) → r = r') (hm : ∀ k p r, P k p r → p ≤ endR r) {l : Level} {k : Nat} {x : Tree} {q : Nat} {r : Res} (h : Lp w rul P l k x q r) : ∀ {r' : Res}, Lp v rul Q l k x q r' → Alike w v (endR r) → r = r' := by
  induction h with
  | stop x q hn =>
    intro r' h' ha
    have e0 := ha q (Nat.le_refl _)
    cases h' with
    | stop => rfl
    | rej _ _ q' op ho hm' h => rw [← e0] at ho; exact absurd hm' (hn op ho)
    | one _ y _ q' op ho hm' hk h => rw [← e0] at ho; exact absurd hm' (hn op ho)
    | more _ y _ q' op r ho hm' hk h hr => rw [← e0] at ho; exact absurd hm' (hn op ho)
  | rej x q q' op ho hm' h =>
    intro r' h' ha
    have hq := hm _ _ _ h
    have e0 := ha q (by simp [endR] at hq ⊢; omega)
    cases h' with
    | stop _ _ hn => rw [e0] at ho; exact absurd hm' (hn op ho)
    | rej _ _ q2 op2 ho2 hm2 h2 => exact hP _ _ _ _ h h2 ha
    | one _ y _ q2 op2 ho2 hm2 hk2 h2 => have := hP _ _ _ _ h h2 ha; cases this
    | more _ y _ q2 op2 r ho2 hm2 hk2 h2 hr => have := hP _ _ _ _ h h2 ha; cases this
  | one x y q q' op ho hm' hk h =>
    intro r' h' ha
    have hq := hm _ _ _ h
    have e0 := ha q (by simp [endR] at hq ⊢; omega)
    cases h' with
    | stop _ _ hn => rw [e0] at ho; exact absurd hm' (hn op ho)
    | rej _ _ q2 op2 ho2 hm2 h2 => have := hP _ _ _ _ h h2 ha; cases this
    | one _ y2 _ q2 op2 ho2 hm2 hk2 h2 =>
      have := hP _ _ _ _ h h2 ha
      injection this with e1 e2
      subst e1; subst e2
      rw [← e0, ho] at ho2
      injection ho2 with e3
      subst e3; rfl
    | more _ y2 _ q2 op2 r ho2 hm2 hk2 h2 hr => exact absurd hk2 hk
  | more x y q q' op r ho hm' hk h hr ih =>
    intro r' h' ha
    have hq := hm _ _ _ h
    have hq2 := lp_mono hm hr
    have e0 := ha q (by simp [endR] at hq; omega)
    cases h' with
    | stop _ _ hn => rw [e0] at ho; exact absurd hm' (hn op ho)
    | rej _ _ q2 op2 ho2 hm2 h2 => have := hP _ _ _ _ h h2 (ha.le hq2); cases this
    | one _ y2 _ q2 op2 ho2 hm2 hk2 h2 => exact absurd hk hk2
    | more _ y2 _ q2 op2 r2 ho2 hm2 hk2 h2 hr2 =>
      have := hP _ _ _ _ h h2 (ha.le hq2)
      injection this with e1 e2
      subst e1; subst e2
      rw [← e0, ho] at ho2
      injection ho2 with e3
      subst e3
      exact ih hr2 ha
theorem par_mono {t : Table} {w : List Int} {rul : Int → Int} : ∀ (n k p : Nat) (r : Res), Par t w rul n k p r → p ≤ endR r
  | 0, _, _, _, h => h.elim
  | n + 1, k, p, r, h => by
    have ih := par_mono (t := t) (w := w) (rul := rul) n
    have h' : ParS t w rul (Par t w rul n) k p r := h
    clear h
    cases h' with
    | opd hk r ho =>
      cases ho with
      | atom => show p ≤ p + 1; omega
      | none => exact Nat.le_refl _
      | brk hb ho x q hx hc => have := ih _ _ _ hx; simp [endR] at this ⊢; omega
      | brkNo hb ho x q hx hc => have := ih _ _ _ hx; simp [endR] at this ⊢; omega
      | brkRej hb ho q hx => have := ih _ _ _ hx; simp [endR] at this ⊢; omega
    | skip l hl h3 hn r h => exact ih _ _ _ h
    | pre l hl h3 op ho hm y q h => have := ih _ _ _ h; simp [endR] at this ⊢; omega
    | preRej l hl h3 op ho hm q h => have := ih _ _ _ h; simp [endR] at this ⊢; omega
    | infRej l hl h3 q h => exact ih _ _ _ h
    | inf l hl h3 x q h r hr => have h1 := ih _ _ _ h; have h2 := lp_mono ih hr; simp [endR] at h1; omega
theorem par_same {t : Table} (hao : brk t = true → t.atom ≠ t.opn) {w v : List Int} {rul : Int → Int} : ∀ (n m k p : Nat) (r r' : Res), Par t w rul n k p r → Par t v rul m k p r' → Alike w v (endR r) → r = r'
  | 0, _, _, _, _, _, h, _, _ => h.elim
  | _ + 1, 0, _, _, _, _, _, h, _ => h.elim
  | n + 1, m + 1, k, p, r, r', h, h', ha => by
    have ih := fun k p r r' => par_same hao (w := w) (v := v) (rul := rul) n m k p r r'
    have hmn := par_mono (t := t) (w := w) (rul := rul) n
    have hp := par_mono (t := t) (w := w) (rul := rul) (n + 1) k p r h
    have e0 := ha p hp
    have g : ParS t w rul (Par t w rul n) k p r := h
    have g' : ParS t v rul (Par t v rul m) k p r' := h'
    clear h h'
    cases g with
    | opd hk r ho =>
      cases g' with
      | opd hk' r' ho' => exact opd_same hao ih hmn ho ho' ha
      | skip l hl => rw [hk] at hl; simp at hl
      | pre l hl => rw [hk] at hl; simp at hl
      | preRej l hl => rw [hk] at hl; simp at hl
      | infRej l hl => rw [hk] at hl; simp at hl
      | inf l hl => rw [hk] at hl; simp at hl
    | skip l hl h3 hn r h =>
      cases g' with
      | opd hk' => rw [hk'] at hl; simp at hl
      | skip l2 hl2 h32 hn2 r2 h2 => exact ih _ _ _ _ h h2 ha
      | pre l2 hl2 h32 op ho hm y q h2 => rw [hl] at hl2; injection hl2 with e; subst e; rw [← e0] at ho; exact absurd hm (hn op ho)
      | preRej l2 hl2 h32 op ho hm q h2 => rw [hl] at hl2; injection hl2 with e; subst e; rw [← e0] at ho; exact absurd hm (hn op ho)
      | infRej l2 hl2 h32 => rw [hl] at hl2; injection hl2 with e; subst e; exact absurd h3 h32
      | inf l2 hl2 h32 => rw [hl] at hl2; injection hl2 with e; subst e; exact absurd h3 h32
    | pre l hl h3 op ho hm y q h =>
      cases g' with
      | opd hk' => rw [hk'] at hl; simp at hl
      | skip l2 hl2 h32 hn2 r2 h2 => rw [hl] at hl2; injection hl2 with e; subst e; rw [e0] at ho; exact absurd hm (hn2 op ho)
      | pre l2 hl2 h32 op2 ho2 hm2 y2 q2 h2 =>
        have := ih _ _ _ _ h h2 ha
        injection this with e1 e2
        subst e1; subst e2
        rw [← e0, ho] at ho2
        injection ho2 with e3
        subst e3; rfl
      | preRej l2 hl2 h32 op2 ho2 hm2 q2 h2 => have := ih _ _ _ _ h h2 ha; cases this
      | infRej l2 hl2 h32 => rw [hl] at hl2; injection hl2 with e; subst e; exact absurd h3 h32
      | inf l2 hl2 h32 => rw [hl] at hl2; injection hl2 with e; subst e; exact absurd h3 h32
    | preRej l hl h3 op ho hm q h =>
      cases g' with
      | opd hk' => rw [hk'] at hl; simp at hl
      | skip l2 hl2 h32 hn2 r2 h2 => rw [hl] at hl2; injection hl2 with e; subst e; rw [e0] at ho; exact absurd hm (hn2 op ho)
      | pre l2 hl2 h32 op2 ho2 hm2 y2 q2 h2 => have := ih _ _ _ _ h h2 ha; cases this
      | preRej l2 hl2 h32 op2 ho2 hm2 q2 h2 => exact ih _ _ _ _ h h2 ha
      | infRej l2 hl2 h32 => rw [hl] at hl2; injection hl2 with e; subst e; exact absurd h3 h32
      | inf l2 hl2 h32 => rw [hl] at hl2; injection hl2 with e; subst e; exact absurd h3 h32
    | infRej l hl h3 q h =>
      cases g' with
      | opd hk' => rw [hk'] at hl; simp at hl
      | skip l2 hl2 h32 => rw [hl] at hl2; injection hl2 with e; subst e; exact absurd h32 h3
      | pre l2 hl2 h32 => rw [hl] at hl2; injection hl2 with e; subst e; exact absurd h32 h3
      | preRej l2 hl2 h32 => rw [hl] at hl2; injection hl2 with e; subst e; exact absurd h32 h3
      | infRej l2 hl2 h32 q2 h2 => exact ih _ _ _ _ h h2 ha
      | inf l2 hl2 h32 x q2 h2 r2 hr2 => have := ih _ _ _ _ h h2 ha; cases this
    | inf l hl h3 x q h r hr =>
      have hq := lp_mono hmn hr
      cases g' with
      | opd hk' => rw [hk'] at hl; simp at hl
      | skip l2 hl2 h32 => rw [hl] at hl2; injection hl2 with e; subst e; exact absurd h32 h3
      | pre l2 hl2 h32 => rw [hl] at hl2; injection hl2 with e; subst e; exact absurd h32 h3
      | preRej l2 hl2 h32 => rw [hl] at hl2; injection hl2 with e; subst e; exact absurd h32 h3
      | infRej l2 hl2 h32 q2 h2 => have := ih _ _ _ _ h h2 (ha.le hq); cases this
      | inf l2 hl2 h32 x2 q2 h2 r2 hr2 =>
        have := ih _ _ _ _ h h2 (ha.le hq)
        injection this with e1 e2
        subst e1; subst e2
        rw [hl] at hl2; injection hl2 with e; subst e
        exact lp_same ih hmn hr hr2 ha
end Go.Proofs.YtjdojogjogenkaaDoor

/- The plain law of core.Ends and core.Reach: tables of masks that are sound and closed under the rules tell which parts of a word the symbols derive. No program is named here. -/
namespace Go.Proofs.YtjdojogjogenkaaDoor
set_option linter.unusedVariables false

/-- What a list of symbols becomes. -/
inductive DerW (g : Gram) : List Sym → List Int → Prop where
  | nil : DerW g [] []
  | term (n : Int) (ss : List Sym) (u : List Int) (h : DerW g ss u) : DerW g (⟨true, n⟩ :: ss) (n :: u)
  | non (q : Rule) (ss : List Sym) (u v : List Int) (hq : q ∈ g.rules) (h1 : DerW g q.right u) (h2 : DerW g ss v) : DerW g (⟨false, q.left⟩ :: ss) (u ++ v)

mutual
theorem der_of_tree {g : Gram} : ∀ (t : Tree) (s : Sym), vt g t s → ∀ ss v, DerW g ss v → DerW g (s :: ss) (yieldT t ++ v)
  | ⟨r, t, ks⟩, ⟨st, sn⟩, h, ss, v, hv => by
    unfold vt at h
    cases st
    · rw [if_neg (by simp)] at h
      obtain ⟨_, hr, q, hq, hql, hks⟩ := h
      have hy : yieldT ⟨r, t, ks⟩ = yields ks := by unfold yieldT; rw [if_neg (by omega)]
      rw [hy]
      dsimp only at hql
      subst hql
      exact .non q ss _ v (List.mem_of_getElem? hq) (der_of_trees ks q.right hks) hv
    · rw [if_pos (by simp)] at h
      obtain ⟨hr, ht, _⟩ := h
      dsimp only at ht
      subst ht
      have hy : yieldT ⟨r, t, ks⟩ = [t] := by unfold yieldT; rw [if_pos (by omega)]
      rw [hy]
      exact .term t ss v hv
theorem der_of_trees {g : Gram} : ∀ (ks : List Tree) (ss : List Sym), vts g ks ss → DerW g ss (yields ks)
  | [], [], _ => by unfold yields; exact .nil
  | k :: ks, s :: ss, h => by
    unfold vts at h
    unfold yields
    exact der_of_tree k s h.1 ss _ (der_of_trees ks ss h.2)
  | [], _ :: _, h => by unfold vts at h; exact h.elim
  | _ :: _, [], h => by unfold vts at h; exact h.elim
end
theorem trees_of_der {g : Gram} {ss : List Sym} {u : List Int} (h : DerW g ss u) (hn : ∀ q ∈ g.rules, 0 ≤ q.left) : ∃ ks, vts g ks ss ∧ yields ks = u := by
  induction h with
  | nil => exact ⟨[], by unfold vts; trivial, by unfold yields; rfl⟩
  | term n ss u _ ih =>
    obtain ⟨ks, h1, h2⟩ := ih
    refine ⟨⟨-1, n, []⟩ :: ks, ?_, ?_⟩
    · unfold vts
      refine ⟨?_, h1⟩
      unfold vt
      rw [if_pos (by simp)]
      simp
    · unfold yields
      have hy : yieldT ⟨-1, n, []⟩ = [n] := by unfold yieldT; rw [if_pos (by omega)]
      rw [hy, h2]
      rfl
  | non q ss u v hq _ _ ih1 ih2 =>
    obtain ⟨k1, h1, h2⟩ := ih1
    obtain ⟨k2, h3, h4⟩ := ih2
    obtain ⟨i, hi⟩ := List.mem_iff_getElem?.1 hq
    refine ⟨⟨(i : Int), 0, k1⟩ :: k2, ?_, ?_⟩
    · unfold vts
      refine ⟨?_, h3⟩
      unfold vt
      rw [if_neg (by simp)]
      exact ⟨rfl, by omega, q, by simpa using hi, rfl, h1⟩
    · unfold yields
      have hy : yieldT ⟨(i : Int), 0, k1⟩ = yields k1 := by unfold yieldT; rw [if_neg (by omega)]
      rw [hy, h2, h4]
theorem DerW.append {g : Gram} {ss rr : List Sym} {u v : List Int} (h : DerW g ss u) (k : DerW g rr v) : DerW g (ss ++ rr) (u ++ v) := by
  induction h with
  | nil => exact k
  | term n ss u _ ih => exact .term n _ _ ih
  | non q ss u1 u2 hq h1 _ _ ih => rw [List.append_assoc]; exact .non q _ _ _ hq h1 ih
theorem DerW.split {g : Gram} {ss rr : List Sym} {u : List Int} (h : DerW g (ss ++ rr) u) : ∃ v x, u = v ++ x ∧ DerW g ss v ∧ DerW g rr x := by
  induction ss generalizing u with
  | nil => exact ⟨[], u, rfl, .nil, h⟩
  | cons s ss ih =>
    rw [List.cons_append] at h
    cases h with
    | term n _ u h =>
      obtain ⟨v, x, rfl, h1, h2⟩ := ih h
      exact ⟨n :: v, x, rfl, .term n _ _ h1, h2⟩
    | non q _ u1 u2 hq h1 h2 =>
      obtain ⟨v, x, rfl, h3, h4⟩ := ih h2
      exact ⟨u1 ++ v, x, by rw [List.append_assoc], .non q _ _ _ hq h1 h3, h4⟩
theorem DerW.one {g : Gram} {n : Int} {u : List Int} : DerW g [⟨false, n⟩] u ↔ ∃ q ∈ g.rules, q.left = n ∧ DerW g q.right u := by
  constructor
  · intro h
    cases h with
    | non q _ u1 u2 hq h1 h2 =>
      cases h2
      rw [List.append_nil]
      exact ⟨q, hq, rfl, h1⟩
  · rintro ⟨q, hq, rfl, h⟩
    have := DerW.non q [] u [] hq h .nil
    rwa [List.append_nil] at this
theorem DerW.cons2 {g : Gram} {s : Sym} {ss : List Sym} {u : List Int} : DerW g (s :: ss) u ↔ ∃ v x, u = v ++ x ∧ DerW g [s] v ∧ DerW g ss x := by
  constructor
  · intro h
    exact DerW.split (ss := [s]) h
  · rintro ⟨v, x, rfl, h1, h2⟩
    exact DerW.append h1 h2

/-! ### Masks -/
theorem testBit_low {k a j : Nat} : (2 ^ k * a).testBit j = (decide (k ≤ j) && a.testBit (j - k)) := by
  rw [Nat.mul_comm, Nat.testBit_mul_two_pow]
theorem low_bit {x : Nat} (h0 : x ≠ 0) (h : x < 2 ^ 32) : x.testBit (Lib.ctz 32 x) = true ∧ (∀ j, (x &&& (x - 1)).testBit j = (x.testBit j && decide (j ≠ Lib.ctz 32 x))) ∧ x &&& (x - 1) < x := by
  obtain ⟨m, hm, hk⟩ := Lib.ctzFrom_spec 32 x (by omega) h
  have e : Lib.ctz 32 x = Lib.ctzFrom 32 x := by simp [Lib.ctz, h0]
  rw [e]
  generalize Lib.ctzFrom 32 x = k at hm hk
  have hp : 0 < 2 ^ k := Nat.two_pow_pos k
  have e1 : x - 1 = 2 ^ k * (2 * m) + (2 ^ k - 1) := by
    rw [hm, Nat.mul_add]; omega
  have hx : ∀ j, x.testBit j = (decide (k ≤ j) && (2 * m + 1).testBit (j - k)) := fun j => by rw [hm]; exact testBit_low
  have hy : ∀ j, k ≤ j → (x - 1).testBit j = (2 * m).testBit (j - k) := fun j hj => by
    rw [e1, Nat.testBit_two_pow_mul_add _ (by omega), if_neg (by omega)]
  have hd : ∀ i, (2 * m + 1).testBit (i + 1) = m.testBit i := fun i => by rw [Nat.testBit_succ]; congr 1; omega
  have hd2 : ∀ i, (2 * m).testBit (i + 1) = m.testBit i := fun i => by rw [Nat.testBit_succ]; congr 1; omega
  refine ⟨?_, fun j => ?_, ?_⟩
  · rw [hx]
    simp [Nat.testBit_zero]
  · rw [Nat.testBit_and, hx]
    by_cases hj : k ≤ j
    · rw [hy j hj]
      by_cases he : j = k
      · subst he
        simp [Nat.testBit_zero]
      · obtain ⟨i, rfl⟩ : ∃ i, j = k + (i + 1) := ⟨j - k - 1, by omega⟩
        rw [show k + (i + 1) - k = i + 1 from by omega, hd, hd2]
        simp
    · simp [hj]
  · exact Nat.lt_of_le_of_lt Nat.and_le_right (by omega)

/-! ### The tables -/
def mskAt (T : List (List Nat)) (n i : Nat) : Nat := (T.getD n []).getD i 0
/-- Where the part ends that a symbol derives from a place on. -/
def hopM (w : List Int) (T : List (List Nat)) (s : Sym) (p : Nat) : Nat := if s.term then (if w[p]? = some s.n then 2 ^ (p + 1) else 0) else mskAt T s.n.toNat p
def Hop (w : List Int) (T : List (List Nat)) (s : Sym) (p j : Nat) : Prop := (hopM w T s p).testBit j = true
def Way (w : List Int) (T : List (List Nat)) : List Sym → Nat → Nat → Prop
  | [], i, j => i = j
  | s :: ss, i, j => ∃ k, Hop w T s i k ∧ Way w T ss k j
theorem Way.snoc {w : List Int} {T : List (List Nat)} {s : Sym} : ∀ (ss : List Sym) (i j : Nat), Way w T (ss ++ [s]) i j ↔ ∃ k, Way w T ss i k ∧ Hop w T s k j
  | [], i, j => by
    constructor
    · rintro ⟨k, h, rfl⟩
      exact ⟨i, rfl, h⟩
    · rintro ⟨k, rfl, h⟩
      exact ⟨j, h, rfl⟩
  | r :: ss, i, j => by
    constructor
    · rintro ⟨k, h, h2⟩
      obtain ⟨k2, h3, h4⟩ := (Way.snoc ss k j).1 h2
      exact ⟨k2, ⟨k, h, h3⟩, h4⟩
    · rintro ⟨k, ⟨k2, h1, h2⟩, h3⟩
      exact ⟨k2, h1, (Way.snoc ss k2 j).2 ⟨k, h2, h3⟩⟩
/-- The shape: n rows of masks for places of the word. -/
structure MskS (m n : Nat) (T : List (List Nat)) : Prop where
  len : T.length = n
  rows : ∀ (i : Nat) (row : List Nat), T[i]? = some row → row.length = m + 1
  low : ∀ a i, mskAt T a i < 2 ^ (m + 1)
theorem hop_lt {w : List Int} {T : List (List Nat)} {n : Nat} (h : MskS w.length n T) (s : Sym) {p : Nat} : hopM w T s p < 2 ^ (w.length + 1) := by
  unfold hopM
  split
  · split
    · rename_i h1
      have := (List.getElem?_eq_some_iff.1 h1).1
      exact Nat.pow_lt_pow_right (by omega) (by omega)
    · exact Nat.two_pow_pos _
  · exact h.low _ _
theorem Hop.le {w : List Int} {T : List (List Nat)} {n : Nat} (h : MskS w.length n T) {s : Sym} {p j : Nat} (hh : Hop w T s p j) : j ≤ w.length := by
  apply Nat.le_of_not_lt
  intro hlt
  have h1 : hopM w T s p < 2 ^ j := Nat.lt_of_lt_of_le (hop_lt h s) (Nat.pow_le_pow_right (by omega) (by omega))
  have h2 := Nat.testBit_lt_two_pow h1
  unfold Hop at hh
  rw [h2] at hh
  cases hh
theorem Way.le {w : List Int} {T : List (List Nat)} {n : Nat} (h : MskS w.length n T) : ∀ (ss : List Sym) (i j : Nat), i ≤ w.length → Way w T ss i j → j ≤ w.length
  | [], i, j, hi, hh => by have : i = j := hh; omega
  | s :: ss, i, j, hi, hh => by
    obtain ⟨k, h1, h2⟩ := hh
    exact Way.le h ss k j (h1.le h) h2
def segW (w : List Int) (i j : Nat) : List Int := (w.drop i).take (j - i)
theorem segW_self (w : List Int) (i : Nat) : segW w i i = [] := by simp [segW]
theorem segW_app (w : List Int) {i k j : Nat} (h1 : i ≤ k) (h2 : k ≤ j) : segW w i k ++ segW w k j = segW w i j := by
  unfold segW
  rw [show w.drop k = (w.drop i).drop (k - i) from by rw [List.drop_drop]; congr 1; omega]
  rw [show j - i = (k - i) + (j - k) from by omega, List.take_add]
theorem segW_one (w : List Int) {i : Nat} {x : Int} (h : w[i]? = some x) : segW w i (i + 1) = [x] := by
  unfold segW
  rw [show i + 1 - i = 1 from by omega]
  obtain ⟨hlt, rfl⟩ := List.getElem?_eq_some_iff.1 h
  rw [List.drop_eq_getElem_cons hlt]
  rfl
theorem segW_len (w : List Int) {i j : Nat} (h1 : i ≤ j) (h2 : j ≤ w.length) : (segW w i j).length = j - i := by
  unfold segW
  rw [List.length_take, List.length_drop]
  omega
theorem segW_all (w : List Int) : segW w 0 w.length = w := by simp [segW]
/-- What the tables say is so. -/
def SndM (g : Gram) (w : List Int) (T : List (List Nat)) : Prop := ∀ a i j, i ≤ w.length → (mskAt T a i).testBit j = true → i ≤ j ∧ j ≤ w.length ∧ DerW g [⟨false, (a : Int)⟩] (segW w i j)
/-- A rule at a place is closed. -/
def ClAt (w : List Int) (T : List (List Nat)) (q : Rule) (i : Nat) : Prop := ∀ j, Way w T q.right i j → (mskAt T q.left.toNat i).testBit j = true
def ClM (g : Gram) (w : List Int) (T : List (List Nat)) : Prop := ∀ q ∈ g.rules, ∀ i, i ≤ w.length → ClAt w T q i
theorem way_sound {g : Gram} {w : List Int} {T : List (List Nat)} (h : SndM g w T) : ∀ (ss : List Sym) (i j : Nat), (∀ s ∈ ss, 0 ≤ s.n) → i ≤ w.length → Way w T ss i j → i ≤ j ∧ j ≤ w.length ∧ DerW g ss (segW w i j)
  | [], i, j, _, hi, hh => by
    have e : i = j := hh
    subst e
    exact ⟨Nat.le_refl _, hi, by rw [segW_self]; exact .nil⟩
  | ⟨st, sn⟩ :: ss, i, j, hs, hi, hh => by
    obtain ⟨k, h1, h2⟩ := hh
    have key : i ≤ k ∧ k ≤ w.length ∧ DerW g [⟨st, sn⟩] (segW w i k) := by
      unfold Hop hopM at h1
      cases st
      · rw [if_neg (by simp)] at h1
        have h3 := h sn.toNat i k hi h1
        have h0 := hs ⟨false, sn⟩ (by simp)
        dsimp only at h0 h3
        rw [Int.toNat_of_nonneg h0] at h3
        exact h3
      · rw [if_pos (by simp)] at h1
        dsimp only at h1
        split at h1
        · rename_i h3
          rw [Nat.testBit_two_pow] at h1
          have e : i + 1 = k := by simpa using h1
          subst e
          have := (List.getElem?_eq_some_iff.1 h3).1
          refine ⟨by omega, by omega, ?_⟩
          rw [segW_one w h3]
          exact .term sn [] [] .nil
        · simp at h1
    obtain ⟨k1, k2, k3⟩ := key
    obtain ⟨r1, r2, r3⟩ := way_sound h ss k j (fun s hm => hs s (by simp [hm])) k2 h2
    refine ⟨by omega, r2, ?_⟩
    rw [← segW_app w k1 r1]
    exact DerW.append (ss := [⟨st, sn⟩]) k3 r3
theorem way_complete {g : Gram} {w : List Int} {T : List (List Nat)} (h : ClM g w T) {ss : List Sym} {u : List Int} (hd : DerW g ss u) : ∀ (i j : Nat), i ≤ j → j ≤ w.length → u = segW w i j → Way w T ss i j := by
  induction hd with
  | nil =>
    intro i j h1 h2 h3
    have := congrArg List.length h3
    rw [segW_len w h1 h2] at this
    simp at this
    show i = j
    omega
  | term n ss u _ ih =>
    intro i j h1 h2 h3
    have hl := congrArg List.length h3
    rw [segW_len w h1 h2] at hl
    simp only [List.length_cons] at hl
    have hi : i < w.length := by omega
    have h4 := segW_app w (show i ≤ i + 1 by omega) (show i + 1 ≤ j by omega)
    rw [segW_one w (List.getElem?_eq_getElem hi), ← h3] at h4
    simp only [List.cons_append, List.nil_append, List.cons.injEq] at h4
    refine ⟨i + 1, ?_, ih (i + 1) j (by omega) h2 h4.2.symm⟩
    unfold Hop hopM
    rw [if_pos (by simp)]
    dsimp only
    rw [if_pos (by rw [List.getElem?_eq_getElem hi, h4.1]), Nat.testBit_two_pow]
    simp
  | non q ss u v hq _ _ ih1 ih2 =>
    intro i j h1 h2 h3
    have hl := congrArg List.length h3
    rw [segW_len w h1 h2, List.length_append] at hl
    have h4 := segW_app w (show i ≤ i + u.length by omega) (show i + u.length ≤ j by omega)
    rw [← h3] at h4
    have h5 := List.append_inj h4 (by rw [segW_len w (by omega) (by omega)]; omega)
    have w1 := ih1 i (i + u.length) (by omega) (by omega) h5.1.symm
    refine ⟨i + u.length, ?_, ih2 _ j (by omega) h2 h5.2.symm⟩
    unfold Hop hopM
    rw [if_neg (by simp)]
    exact h q hq i (by omega) _ w1
/-- What Accepts answers. -/
theorem acc_iff {g : Gram} {w : List Int} {T : List (List Nat)} {a : Nat} (hs : SndM g w T) (hc : ClM g w T) : (mskAt T a 0).testBit w.length = true ↔ DerW g [⟨false, (a : Int)⟩] w := by
  constructor
  · intro h
    have h1 := (hs a 0 w.length (by omega) h).2.2
    rwa [segW_all] at h1
  · intro h
    obtain ⟨k, h1, h2⟩ := way_complete hc h 0 w.length (by omega) (Nat.le_refl _) (segW_all w).symm
    have e : k = w.length := h2
    subst e
    unfold Hop hopM at h1
    rw [if_neg (by simp)] at h1
    simpa using h1

/-! ### One step -/
def setM (T : List (List Nat)) (a i x : Nat) : List (List Nat) := T.set a ((T.getD a []).set i x)
theorem mskAt_set {m n : Nat} {T : List (List Nat)} (h : MskS m n T) {a i x : Nat} (ha : a < n) (hi : i ≤ m) (b j : Nat) : mskAt (setM T a i x) b j = if b = a ∧ j = i then x else mskAt T b j := by
  obtain ⟨row, hrow⟩ := get_some (show a < T.length by rw [h.len]; exact ha)
  have hl := h.rows a row hrow
  have e1 : T.getD a [] = row := by rw [List.getD_eq_getElem?_getD, hrow]; rfl
  unfold mskAt setM
  rw [e1, List.getD_eq_getElem?_getD (l := T.set _ _), List.getElem?_set]
  by_cases e : a = b
  · subst e
    rw [if_pos rfl, if_pos (by rw [h.len]; exact ha)]
    simp only [Option.getD_some, true_and]
    rw [List.getD_eq_getElem?_getD, List.getElem?_set, e1, List.getD_eq_getElem?_getD]
    by_cases e2 : i = j
    · subst e2
      rw [if_pos rfl, if_pos (by omega)]
      simp
    · rw [if_neg e2, if_neg (fun h => e2 h.symm)]
  · rw [if_neg e, if_neg (fun h => e h.1.symm), ← List.getD_eq_getElem?_getD]
theorem MskS.set_ {m n : Nat} {T : List (List Nat)} (h : MskS m n T) {a i x : Nat} (ha : a < n) (hi : i ≤ m) (hx : x < 2 ^ (m + 1)) : MskS m n (setM T a i x) := by
  refine ⟨by unfold setM; rw [List.length_set]; exact h.len, fun b row hb => ?_, fun b j => ?_⟩
  · unfold setM at hb
    rw [List.getElem?_set] at hb
    split at hb
    · split at hb
      · simp at hb
        subst hb
        obtain ⟨r2, hr2⟩ := get_some (show a < T.length by rw [h.len]; exact ha)
        rw [List.length_set, hr2]
        exact h.rows a r2 hr2
      · cases hb
    · exact h.rows b row hb
  · rw [mskAt_set h ha hi]
    split
    · exact hx
    · exact h.low b j
theorem or_mono {x y : Nat} {j : Nat} (h : x.testBit j = true) : (x ||| y).testBit j = true := by rw [Nat.testBit_or, h]; rfl
theorem SndM.step {g : Gram} {w : List Int} {n : Nat} {T : List (List Nat)} (h : SndM g w T) (hS : MskS w.length n T) {q : Rule} (hq : q ∈ g.rules) (hq0 : 0 ≤ q.left) (hqn : q.left.toNat < n) (hs : ∀ s ∈ q.right, 0 ≤ s.n) {i x : Nat} (hi : i ≤ w.length) (hx : ∀ j, x.testBit j = true → Way w T q.right i j) :
    SndM g w (setM T q.left.toNat i (mskAt T q.left.toNat i ||| x)) := by
  intro b p j hp hj
  rw [mskAt_set hS hqn hi] at hj
  split at hj
  · rename_i e
    obtain ⟨rfl, rfl⟩ := e
    rw [Nat.testBit_or, Bool.or_eq_true] at hj
    rcases hj with hj | hj
    · exact h _ _ _ hp hj
    · obtain ⟨r1, r2, r3⟩ := way_sound h q.right p j hs hi (hx j hj)
      refine ⟨r1, r2, DerW.one.2 ⟨q, hq, ?_, r3⟩⟩
      omega
  · exact h b p j hp hj
def fuelM (T : List (List Nat)) : Nat := (T.map fun r => (r.map fun v => 8192 - v).sum).sum
theorem fsum_set : ∀ (l : List Nat) (i x y : Nat), l[i]? = some x → y < x → (l.set i y).sum < l.sum
  | [], i, x, y, h, _ => by simp at h
  | a :: l, 0, x, y, h, hy => by simp at h; subst h; simp; omega
  | a :: l, i + 1, x, y, h, hy => by
    have := fsum_set l i x y (by simpa using h) hy
    simp
    exact this
theorem fuel_set {m n : Nat} {T : List (List Nat)} (h : MskS m n T) (hm : m ≤ 12) {a i x : Nat} (ha : a < n) (hi : i ≤ m) (hx : mskAt T a i < x) (hx2 : x < 2 ^ (m + 1)) : fuelM (setM T a i x) < fuelM T := by
  obtain ⟨row, hrow⟩ := get_some (show a < T.length by rw [h.len]; exact ha)
  have hl := h.rows a row hrow
  obtain ⟨v, hv⟩ := get_some (show i < row.length by omega)
  have e1 : T.getD a [] = row := by rw [List.getD_eq_getElem?_getD, hrow]; rfl
  have e2 : mskAt T a i = v := by unfold mskAt; rw [e1, List.getD_eq_getElem?_getD, hv]; rfl
  have h13 : 2 ^ (m + 1) ≤ 2 ^ 13 := Nat.pow_le_pow_right (by omega) (by omega)
  have h14 : (2 : Nat) ^ 13 = 8192 := rfl
  unfold fuelM setM
  rw [e1, List.map_set]
  apply fsum_set _ _ ((row.map fun v => 8192 - v).sum)
  · rw [List.getElem?_map, hrow]; rfl
  · rw [List.map_set]
    apply fsum_set _ _ (8192 - v)
    · rw [List.getElem?_map, hv]; rfl
    · omega
theorem or_lt {m x y : Nat} (hx : x < 2 ^ m) (hy : y < 2 ^ m) : x ||| y < 2 ^ m := Nat.or_lt_two_pow hx hy
/-- x &^ y, y below 2^32. -/
theorem andNot_bit {x y j : Nat} (hy : y < 2 ^ 32) (hj : j < 32) : (x &&& (4294967295 - y)).testBit j = (x.testBit j && !y.testBit j) := by
  rw [Nat.testBit_and, show 4294967295 - y = 2 ^ 32 - (y + 1) from by omega, Nat.testBit_two_pow_sub_succ hy]
  simp [hj]
theorem andNot_zero {x y : Nat} (hx : x < 2 ^ 32) (hy : y < 2 ^ 32) (h : x &&& (4294967295 - y) = 0) : ∀ j, x.testBit j = true → y.testBit j = true := by
  intro j hj
  have hj32 : j < 32 := by
    apply Nat.lt_of_not_le
    intro hle
    have h1 : x < 2 ^ j := Nat.lt_of_lt_of_le hx (Nat.pow_le_pow_right (by omega) hle)
    rw [Nat.testBit_lt_two_pow h1] at hj
    cases hj
  have h2 := andNot_bit (x := x) hy hj32
  rw [h, hj] at h2
  simpa using h2
theorem andNot_pos {x y : Nat} (hx : x < 2 ^ 32) (hy : y < 2 ^ 32) (h : x &&& (4294967295 - y) ≠ 0) : y < y ||| x := by
  apply Nat.lt_of_le_of_ne Nat.left_le_or
  intro e
  apply h
  apply Nat.eq_of_testBit_eq
  intro j
  rcases Nat.lt_or_ge j 32 with hj | hj
  · rw [andNot_bit hy hj, Nat.zero_testBit]
    have h1 : (y ||| x).testBit j = y.testBit j := by rw [← e]
    rw [Nat.testBit_or] at h1
    cases hyj : y.testBit j <;> cases hxj : x.testBit j <;> rw [hyj, hxj] at h1 <;> first | rfl | cases h1
  · rw [Nat.zero_testBit]
    exact Nat.testBit_lt_two_pow (Nat.lt_of_le_of_lt Nat.and_le_left (Nat.lt_of_lt_of_le hx (Nat.pow_le_pow_right (by omega) hj)))
theorem mskAt_init (n m a i : Nat) : mskAt (List.replicate n (List.replicate (m + 1) 0)) a i = 0 := by
  unfold mskAt
  have e : (List.replicate n (List.replicate (m + 1) 0)).getD a [] = if a < n then List.replicate (m + 1) 0 else [] := by
    rw [List.getD_eq_getElem?_getD, List.getElem?_replicate]
    split <;> rfl
  rw [e]
  split
  · rw [List.getD_eq_getElem?_getD, List.getElem?_replicate]
    split <;> rfl
  · rfl
theorem MskS.init (n m : Nat) : MskS m n (List.replicate n (List.replicate (m + 1) 0)) :=
  ⟨by simp, fun i row h => (by
    rw [List.getElem?_replicate] at h
    split at h
    · simp at h
      rw [← h]
      simp
    · cases h), fun a i => (by rw [mskAt_init]; exact Nat.two_pow_pos _)⟩
theorem SndM.init (g : Gram) (w : List Int) (n : Nat) : SndM g w (List.replicate n (List.replicate (w.length + 1) 0)) := fun a i j _ h => by
  rw [mskAt_init] at h
  simp at h
end Go.Proofs.YtjdojogjogenkaaDoor

