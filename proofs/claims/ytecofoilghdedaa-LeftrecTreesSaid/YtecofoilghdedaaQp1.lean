/- Plain facts and definitions of this proof, of several texts joined: Mem, Data, Open, Opens, App, FirstP, Bcells, Elem, Kept, RowBase, RowsM, RowMk, FollowP, WarP, CloP, FirstM, Idx, UsefulP, LenRankP, TrimP, LenJacP, ElsS, RegByHand, Pair, IntCells. -/
import Derived.WalkKit
import Derived.WalkSpells
import Derived.WalkLawsBesides
import Derived.Deep.Draws
import Derived.Lib.Hide
import Derived.Maps.AppendAt
import Derived.Test.YtecofoilghdedaaRows
import Derived.ProofKit
import Derived.Deep.Slices
import Derived.Deep.Fields
import Derived.ChangeSame
import Derived.Test.YtecofoilghdedaaChecked
import Derived.Lib.AppendZeros
import Derived.Deep.RegionLaw
import Derived.Deep.LoopGhost
import Derived.StillTailTactics
import Derived.Deep.RegionHeld3
import Derived.Laws.CopyOwn
import Derived.Deep.OwnRows
import Derived.IntWalk
/- How values in the model's memory read as plain data: a class of readable types, slices of them, and rows that the call itself owns and appends to. No program is named here. -/
namespace Go.Proofs.Ytecofoilghdedaa
open Go.RowKit

theorem ret_int {k : IntKind} {a b : Int} (h : a = b) : Ending.returned (.int k a) = .returned (.int k b) := by rw [h]
theorem ret_bool {a b : Bool} (h : a = b) : Ending.returned (.bool a) = .returned (.bool b) := by rw [h]
theorem drop_cons {α : Type} {xs : List α} {k : Nat} {x : α} (h : xs[k]? = some x) : xs.drop k = x :: xs.drop (k + 1) := by
  obtain ⟨hlt, rfl⟩ := List.getElem?_eq_some_iff.1 h
  exact List.drop_eq_getElem_cons hlt
theorem get_some {α : Type} {xs : List α} {k : Nat} (h : k < xs.length) : ∃ x, xs[k]? = some x := ⟨_, List.getElem?_eq_getElem h⟩
theorem take_snoc {α : Type} {xs : List α} {k : Nat} {x : α} (h : xs[k]? = some x) : xs.take (k + 1) = xs.take k ++ [x] := by
  rw [List.take_add_one, h]; rfl

def I64 (n : Int) : Prop := -9223372036854775808 ≤ n ∧ n ≤ 9223372036854775807

/-- The cells cs lie in block b from offset o on. -/
def At (w : World) (b o : Nat) (cs : List Value) : Prop := ∀ j u, cs[j]? = some u → w.cell? ⟨b, o + j, none⟩ = some u

/-- A type of data that can be read: how many cells a value has, and when cells read as it. S: the blocks that the reading may touch beyond the cells themselves. -/
class Dat (α : Type) where
  size : Nat
  wraps : Bool
  rd : World → (Nat → Prop) → α → List Value → Prop
  len : ∀ {w S x cs}, rd w S x cs → cs.length = size
  pos : 0 < size
  flat : wraps = false → size = 1
  one : ∀ {w S x cs}, rd w S x cs → ∀ u ∈ cs, u.oneCell' = true
  keep : ∀ {w w' : World} {S S' : Nat → Prop} {x cs}, (∀ p : Addr, S p.block → p.block < w.heap.size → w'.cell? p = w.cell? p) → (∀ b, S b → S' b) → rd w S x cs → rd w' S' x cs

/-- The value v reads as x. -/
def Vl {α : Type} [Dat α] (w : World) (S : Nat → Prop) (x : α) (v : Value) : Prop :=
  ∃ cs, Dat.rd w S x cs ∧ v = if Dat.wraps α then .agg cs.toArray else cs.headD undef

/-- What a slice's address must lead to. -/
def Els {α : Type} [Dat α] (w : World) (S : Nat → Prop) (xs : List α) (A : Option Addr) : Prop :=
  xs ≠ [] → ∃ b o, A = some ⟨b, o, none⟩ ∧ S b ∧ ∀ i x, xs[i]? = some x → ∃ cs, Dat.rd w S x cs ∧ At w b (o + i * Dat.size α) cs

section
variable {w w' : World} {S S' : Nat → Prop} {b o : Nat}

theorem At.lt {cs : List Value} (h : At w b o cs) (hl : 0 < cs.length) : b < w.heap.size := by
  have h0 := h 0 cs[0] (List.getElem?_eq_getElem hl)
  exact World.block_lt_of_cell? w _ h0
theorem At.keep {cs : List Value} (h : At w b o cs) (hk : ∀ p : Addr, p.block = b → w'.cell? p = w.cell? p) : At w' b o cs :=
  fun j u hu => (hk _ rfl).trans (h j u hu)
theorem At.c0 {v : Value} {l : List Value} (h : At w b o (v :: l)) : w.cell? ⟨b, o, none⟩ = some v := by simpa using h 0 v rfl
theorem At.c1 {v0 v : Value} {l : List Value} (h : At w b o (v0 :: v :: l)) : w.cell? ⟨b, o + 1, none⟩ = some v := by simpa using h 1 v rfl
theorem At.c2 {v0 v1 v : Value} {l : List Value} (h : At w b o (v0 :: v1 :: v :: l)) : w.cell? ⟨b, o + 2, none⟩ = some v := by simpa using h 2 v rfl
theorem At.c3 {v0 v1 v2 v : Value} {l : List Value} (h : At w b o (v0 :: v1 :: v2 :: v :: l)) : w.cell? ⟨b, o + 3, none⟩ = some v := by simpa using h 3 v rfl
theorem At.c4 {v0 v1 v2 v3 v : Value} {l : List Value} (h : At w b o (v0 :: v1 :: v2 :: v3 :: v :: l)) : w.cell? ⟨b, o + 4, none⟩ = some v := by simpa using h 4 v rfl
theorem At.d2 {v0 v1 v : Value} {l : List Value} (h : At w b o (v0 :: v1 :: v :: l)) : w.cell? ⟨b, o + 1 + 1, none⟩ = some v := h.c2
theorem At.d3 {v0 v1 v2 v : Value} {l : List Value} (h : At w b o (v0 :: v1 :: v2 :: v :: l)) : w.cell? ⟨b, o + 1 + 1 + 1, none⟩ = some v := h.c3

theorem Vl.keep {α : Type} [Dat α] {x : α} {v : Value} (h : Vl w S x v) (hk : ∀ p : Addr, S p.block → p.block < w.heap.size → w'.cell? p = w.cell? p) (hS : ∀ b, S b → S' b) : Vl w' S' x v := by
  obtain ⟨cs, h1, h2⟩ := h
  exact ⟨cs, Dat.keep hk hS h1, h2⟩
theorem Vl.below {α : Type} [Dat α] {x : α} {v : Value} (h : Vl w S x v) (hb : Below w.heap.size w w') : Vl w' S x v :=
  h.keep (fun _ _ hp => hb.cell hp) (fun _ h => h)
theorem Vl.belowB {α : Type} [Dat α] {x : α} {v : Value} {B : Nat} (h : Vl w S x v) (hb : Below B w w') (hS : ∀ b, S b → b < B) : Vl w' S x v :=
  h.keep (fun _ hs _ => hb.cell (hS _ hs)) (fun _ h => h)
theorem Vl.mono {α : Type} [Dat α] {x : α} {v : Value} (h : Vl w S x v) (hS : ∀ b, S b → S' b) : Vl w S' x v := h.keep (fun _ _ _ => rfl) hS

theorem Els.keep {α : Type} [Dat α] {xs : List α} {A : Option Addr} (h : Els w S xs A) (hk : ∀ p : Addr, S p.block → p.block < w.heap.size → w'.cell? p = w.cell? p) (hS : ∀ b, S b → S' b) : Els w' S' xs A := by
  intro hne
  obtain ⟨b, o, hA, hb, hx⟩ := h hne
  refine ⟨b, o, hA, hS _ hb, fun i x hi => ?_⟩
  obtain ⟨cs, h1, h2⟩ := hx i x hi
  have hlt : b < w.heap.size := h2.lt (by rw [Dat.len h1]; exact Dat.pos)
  exact ⟨cs, Dat.keep hk hS h1, h2.keep fun p hp => hk p (hp ▸ hb) (hp ▸ hlt)⟩
theorem Els.below {α : Type} [Dat α] {xs : List α} {A : Option Addr} (h : Els w S xs A) (hb : Below w.heap.size w w') : Els w' S xs A :=
  h.keep (fun _ _ hp => hb.cell hp) (fun _ h => h)
theorem Els.belowB {α : Type} [Dat α] {xs : List α} {A : Option Addr} {B : Nat} (h : Els w S xs A) (hb : Below B w w') (hS : ∀ b, S b → b < B) : Els w' S xs A :=
  h.keep (fun _ hs _ => hb.cell (hS _ hs)) (fun _ h => h)
theorem Els.at_ {α : Type} [Dat α] {xs : List α} {A : Option Addr} (h : Els w S xs A) {k : Nat} {x : α} (hk : xs[k]? = some x) :
    ∃ b o cs, A = some ⟨b, o, none⟩ ∧ S b ∧ b < w.heap.size ∧ Dat.rd w S x cs ∧ At w b (o + k * Dat.size α) cs := by
  obtain ⟨b, o, hA, hb, hx⟩ := h (by rintro rfl; simp at hk)
  obtain ⟨cs, h1, h2⟩ := hx k x hk
  exact ⟨b, o, cs, hA, hb, h2.lt (by rw [Dat.len h1]; exact Dat.pos), h1, h2⟩
end

/-! ### Instances -/
instance instDatInt : Dat Int where
  size := 1
  wraps := false
  rd _ _ n cs := cs = [.int .i64 n] ∧ I64 n
  len h := by rw [h.1]; rfl
  pos := by decide
  flat _ := rfl
  one h := by rw [h.1]; intro u hu; simp at hu; subst hu; rfl
  keep _ _ h := h
instance instDatBool : Dat Bool where
  size := 1
  wraps := false
  rd _ _ n cs := cs = [.bool n]
  len h := by rw [h]; rfl
  pos := by decide
  flat _ := rfl
  one h := by rw [h]; intro u hu; simp at hu; subst hu; rfl
  keep _ _ h := h
instance instDatList {α : Type} [Dat α] : Dat (List α) where
  size := 1
  wraps := false
  rd w S xs cs := ∃ A c, cs = [.slice A xs.length c] ∧ xs.length ≤ c ∧ c ≤ maxLen ∧ Els w S xs A
  len h := by obtain ⟨A, c, rfl, _⟩ := h; rfl
  pos := by decide
  flat _ := rfl
  one h := by obtain ⟨A, c, rfl, _⟩ := h; intro u hu; simp at hu; subst hu; rfl
  keep hk hS h := by
    obtain ⟨A, c, h1, h2, h3, h4⟩ := h
    exact ⟨A, c, h1, h2, h3, h4.keep hk hS⟩

section
variable {w w' : World} {S S' : Nat → Prop} {b o : Nat}
theorem Vl.slice {α : Type} [Dat α] {xs : List α} {v : Value} (h : Vl w S xs v) : ∃ A c, v = .slice A xs.length c ∧ xs.length ≤ c ∧ c ≤ 9223372036854775807 ∧ Els w S xs A := by
  obtain ⟨cs, ⟨A, c, rfl, h2, h3, h4⟩, hv⟩ := h
  exact ⟨A, c, hv, h2, by simpa [maxLen] using h3, h4⟩
theorem Vl.of_slice {α : Type} [Dat α] {xs : List α} {A : Option Addr} {n c : Nat} (hn : n = xs.length) (h2 : xs.length ≤ c) (h3 : c ≤ 9223372036854775807) (h : Els w S xs A) : Vl w S xs (.slice A n c) :=
  ⟨_, ⟨A, c, rfl, h2, by simpa [maxLen] using h3, h⟩, by subst hn; rfl⟩
theorem Vl.els {α : Type} [Dat α] {w : World} {S : Nat → Prop} {xs : List α} {A : Option Addr} {n c : Nat} (h : Vl w S xs (.slice A n c)) : n = xs.length ∧ xs.length ≤ c ∧ c ≤ 9223372036854775807 ∧ Els w S xs A := by
  obtain ⟨A', c', e, h1, h2, h3⟩ := h.slice
  injection e with e1 e2 e3
  subst e1; subst e2; subst e3
  exact ⟨rfl, h1, h2, h3⟩
theorem Vl.nil {α : Type} [Dat α] : Vl w S ([] : List α) (.slice none 0 0) := Vl.of_slice rfl (by simp) (by omega) (fun h => absurd rfl h)
theorem Vl.int {n : Int} {v : Value} (h : Vl w S n v) : v = .int .i64 n ∧ I64 n := by
  obtain ⟨cs, ⟨rfl, h1⟩, hv⟩ := h
  exact ⟨hv, h1⟩
theorem Vl.of_int {n : Int} (h : I64 n) : Vl w S n (.int .i64 n) := ⟨[.int .i64 n], ⟨rfl, h⟩, rfl⟩
theorem Vl.bool {n : Bool} {v : Value} (h : Vl w S n v) : v = .bool n := by
  obtain ⟨cs, rfl, hv⟩ := h
  exact hv
theorem Vl.of_bool (n : Bool) : Vl w S n (.bool n) := ⟨[.bool n], rfl, rfl⟩
/-- A slice cell among the cells of a struct. -/
theorem rd_slice {α : Type} [Dat α] {xs : List α} {cs : List Value} (h : Dat.rd w S xs cs) : ∃ v, cs = [v] ∧ Vl w S xs v := by
  obtain ⟨A, c, rfl, h2, h3, h4⟩ := h
  exact ⟨_, rfl, _, ⟨A, c, rfl, h2, h3, h4⟩, rfl⟩
theorem rd_of_slice {α : Type} [Dat α] {xs : List α} {v : Value} (h : Vl w S xs v) : Dat.rd w S xs [v] := by
  obtain ⟨cs, ⟨A, c, rfl, h2, h3, h4⟩, hv⟩ := h
  exact ⟨A, c, by rw [hv]; rfl, h2, h3, h4⟩
end

/-! ### Rows that the call owns -/
/-- v is a slice of the call's own (nil, or in a block from base on, at its head) whose elements read as xs; what they lead to lies in S or in other blocks from base on. -/
def OwnT (S : Nat → Prop) (base : Nat) (v : Value) (w : World) (b : Nat) : Prop := (S b ∨ base ≤ b) ∧ v.ownBlock ≠ some b ∧ b < w.heap.size
def Own {α : Type} [Dat α] (w : World) (S : Nat → Prop) (base : Nat) (e : TypeId) (v : Value) (xs : List α) : Prop :=
  ∃ css : List (List Value), w.ownsRow base e (Dat.size α) v xs.length css.flatten ∧ css.length = xs.length ∧
    ∀ (i : Nat) (x : α) (cs : List Value), xs[i]? = some x → css[i]? = some cs → Dat.rd w (OwnT S base v w) x cs

theorem Own.nil {α : Type} [Dat α] (w : World) (S : Nat → Prop) (base : Nat) (e : TypeId) : Own w S base e (.slice none 0 0) ([] : List α) :=
  ⟨[], World.ownsRow_nil w base e _, rfl, fun i x cs h => by simp at h⟩

theorem flat_get {size : Nat} : ∀ (css : List (List Value)) (_ : ∀ cs ∈ css, cs.length = size) (i j : Nat) (cs : List Value) (u : Value), css[i]? = some cs → cs[j]? = some u → css.flatten[i * size + j]? = some u
  | [], _, i, j, cs, u, h, _ => by simp at h
  | c :: css, hl, 0, j, cs, u, h, hu => by
    simp at h
    subst h
    have hj := (List.getElem?_eq_some_iff.1 hu).1
    simp only [List.flatten_cons, Nat.zero_mul, Nat.zero_add]
    rw [List.getElem?_append_left hj]
    exact hu
  | c :: css, hl, i + 1, j, cs, u, h, hu => by
    have hc : c.length = size := hl c (by simp)
    have ih := flat_get css (fun cs hcs => hl cs (by simp [hcs])) i j cs u (by simpa using h) hu
    simp only [List.flatten_cons]
    rw [List.getElem?_append_right (by rw [hc, Nat.add_mul]; omega), hc, Nat.add_mul]
    rw [show i * size + 1 * size + j - size = i * size + j from by omega]
    exact ih

section
variable {w w' : World} {S S' : Nat → Prop} {base : Nat} {e : TypeId} {v : Value} {α : Type} [Dat α] {xs : List α}

theorem Own.block (h : Own w S base e v xs) : ∀ k, v.ownBlock = some k → base ≤ k ∧ k < w.heap.size := by
  obtain ⟨css, h1, _⟩ := h
  exact h1.lt
theorem Own.form (h : Own w S base e v xs) : ∃ A c, v = .slice A xs.length c ∧ xs.length ≤ c ∧ c ≤ 9223372036854775807 ∧ (xs = [] ∨ ∃ g, A = some ⟨g, 0, none⟩ ∧ base ≤ g ∧ g < w.heap.size) := by
  obtain ⟨css, h1, h2, _⟩ := h
  rcases h1.2 with ⟨rfl, hn⟩ | ⟨g, cap, cur, rfl, hg, hh, hnc, hcm, _⟩
  · refine ⟨none, 0, by rw [hn], by omega, by omega, .inl (List.eq_nil_of_length_eq_zero hn)⟩
  · exact ⟨_, cap, rfl, hnc, by simpa [maxLen] using hcm, .inr ⟨g, rfl, hg, (Array.getElem?_eq_some_iff.1 hh).1⟩⟩
/-- An own row reads as a slice. -/
theorem Own.vl (h : Own w S base e v xs) : Vl w (fun b => (S b ∨ base ≤ b) ∧ b < w.heap.size) xs v := by
  obtain ⟨css, h1, h2, h3⟩ := h
  have hcl : ∀ cs ∈ css, cs.length = Dat.size α := by
    intro cs hcs
    obtain ⟨i, hi, rfl⟩ := List.getElem_of_mem hcs
    have hx : xs[i]? = some (xs[i]'(by omega)) := List.getElem?_eq_getElem (by omega)
    exact Dat.len (h3 i _ _ hx (List.getElem?_eq_getElem hi))
  rcases h1.2 with ⟨rfl, hn⟩ | ⟨g, cap, cur, rfl, hg, hh, hnc, hcm, _⟩
  · have : xs = [] := List.eq_nil_of_length_eq_zero hn
    subst this
    exact Vl.nil
  · refine Vl.of_slice rfl hnc (by simpa [maxLen] using hcm) fun _ => ⟨g, 0, rfl, ⟨.inr hg, (Array.getElem?_eq_some_iff.1 hh).1⟩, fun i x hi => ?_⟩
    have hil : i < css.length := by have := (List.getElem?_eq_some_iff.1 hi).1; omega
    have hci : css[i]? = some css[i] := List.getElem?_eq_getElem hil
    refine ⟨css[i], Dat.keep (fun _ _ _ => rfl) (fun b hb => ⟨hb.1, hb.2.2⟩) (h3 i x _ hi hci), fun j u hu => ?_⟩
    have hf := flat_get css hcl i j _ u hci hu
    have hc := h1.cells (g := g) rfl _ _ hf
    have hadd : (⟨g, 0, none⟩ : Addr).add (i * Dat.size α + j) = ⟨g, 0 + i * Dat.size α + j, none⟩ := by
      unfold Addr.add
      split
      · rename_i h0; simp only [Nat.zero_add, h0]
      · simp only [Nat.zero_add]
    rw [← hadd]
    exact hc
/-- An own row's element, for a load. -/
theorem Own.at_ (h : Own w S base e v xs) {k : Nat} {x : α} (hk : xs[k]? = some x) : ∃ g c cs, v = .slice (some ⟨g, 0, none⟩) xs.length c ∧ base ≤ g ∧ g < w.heap.size ∧ Dat.rd w (OwnT S base v w) x cs ∧ At w g (k * Dat.size α) cs := by
  obtain ⟨css, h1, h2, h3⟩ := h
  have hcl : ∀ cs ∈ css, cs.length = Dat.size α := by
    intro cs hcs
    obtain ⟨i, hi, rfl⟩ := List.getElem_of_mem hcs
    have hx : xs[i]? = some (xs[i]'(by omega)) := List.getElem?_eq_getElem (by omega)
    exact Dat.len (h3 i _ _ hx (List.getElem?_eq_getElem hi))
  rcases h1.2 with ⟨rfl, hn⟩ | ⟨g, cap, cur, rfl, hg, hh, hnc, hcm, _⟩
  · have : xs = [] := List.eq_nil_of_length_eq_zero hn
    subst this
    simp at hk
  · have hil : k < css.length := by have := (List.getElem?_eq_some_iff.1 hk).1; omega
    have hci : css[k]? = some css[k] := List.getElem?_eq_getElem hil
    refine ⟨g, cap, css[k], rfl, hg, (Array.getElem?_eq_some_iff.1 hh).1, h3 k x _ hk hci, fun j u hu => ?_⟩
    have hf := flat_get css hcl k j _ u hci hu
    have hc := h1.cells (g := g) rfl _ _ hf
    have hadd : (⟨g, 0, none⟩ : Addr).add (k * Dat.size α + j) = ⟨g, k * Dat.size α + j, none⟩ := by
      unfold Addr.add
      split
      · rename_i h0; simp only [h0]
      · simp only [Nat.zero_add]
    rw [← hadd]
    exact hc
theorem Own.grown {row : Option Nat} (h : Own w S base e v xs) (hg : w.grownBy w' row) (hne : ∀ k, row = some k → v.ownBlock ≠ some k ∧ ¬ (S k ∨ base ≤ k)) : Own w' S base e v xs := by
  obtain ⟨css, h1, h2, h3⟩ := h
  refine ⟨css, h1.kept hg ?_, h2, fun i x cs hi hc => Dat.keep (fun p hp hlt => ?_) (fun b hb => ⟨hb.1, hb.2.1, Nat.lt_of_lt_of_le hb.2.2 hg.size⟩) (h3 i x cs hi hc)⟩
  · cases hv : v.ownBlock with
    | none => exact .inl rfl
    | some k => exact .inr (fun e => (hne k e.symm).1 hv)
  · exact World.cell?_of_block (hg.block p.block hlt (fun e => (hne _ e.symm).2 hp.1))
theorem Own.below {B : Nat} (h : Own w S base e v xs) (hb : Below B w w') (hB : w.heap.size ≤ B) : Own w' S base e v xs := by
  obtain ⟨css, h1, h2, h3⟩ := h
  refine ⟨css, h1.kept (row := none) ⟨hb.os, hb.tape, hb.output, hb.size, fun k hk _ => hb.block k (by omega)⟩ ?_, h2, fun i x cs hi hc => Dat.keep (fun p hp hlt => hb.cell (by omega)) (fun b hb' => ⟨hb'.1, hb'.2.1, Nat.lt_of_lt_of_le hb'.2.2 hb.size⟩) (h3 i x cs hi hc)⟩
  cases hv : v.ownBlock <;> simp
theorem Own.alloc (h : Own w S base e v xs) (o : Obj) : Own (w.alloc o) S base e v xs := h.below ((Below.refl w.heap.size w).alloc (Nat.le_refl _) o) (Nat.le_refl _)
theorem Own.drew (h : Own w S base e v xs) : Own w.drew S base e v xs := h.below ((Below.refl w.heap.size w).drew) (Nat.le_refl _)
/-- A store elsewhere: into a block that no element leads to. -/
theorem Own.setCell (h : Own w S base e v xs) {p : Addr} (hp : v.ownBlock ≠ some p.block) (hS : ¬ (S p.block ∨ base ≤ p.block)) (u : Value) : Own (w.setCell p u) S base e v xs :=
  h.grown (row := some p.block) ⟨rfl, rfl, rfl, by simp [World.setCell], fun k _ hk => Below.heap_setCell _ _ _ _ (fun e => hk (by rw [e]))⟩ (fun k hk => by cases hk; exact ⟨hp, hS⟩)
end

/-- What the program's tables say of the slice type t with elements e. -/
def ElemT (P : Program) (α : Type) [Dat α] (t e : TypeId) (bytes : Nat) : Prop :=
  ∃ i z, P.underlying t = some (.slice e) ∧ P.info? e = some i ∧ i.zero = some z ∧ i.size = Dat.size α ∧ i.bytes = bytes ∧ z.cells.size = Dat.size α

section
variable {P : Program} {w : World} {S : Nat → Prop} {base : Nat} {α : Type} [Dat α]

theorem own_snoc {e : TypeId} {v v' : Value} {w' : World} {xs : List α} {x : α} {css : List (List Value)} {cs : List Value}
    (h2 : css.length = xs.length) (h3 : ∀ (i : Nat) (x : α) (cs : List Value), xs[i]? = some x → css[i]? = some cs → Dat.rd w (OwnT S base v w) x cs)
    (hrd : Dat.rd w (OwnT S base v w) x cs) (hown : w'.ownsRow base e (Dat.size α) v' (xs.length + 1) (css.flatten ++ cs))
    (hg : w.grownBy w' v.ownBlock) (hat : v'.ownBlock = v.ownBlock ∨ v'.ownBlock = some w.heap.size) : Own w' S base e v' (xs ++ [x]) := by
  have hkeep : ∀ {y : α} {ds : List Value}, Dat.rd w (OwnT S base v w) y ds → Dat.rd w' (OwnT S base v' w') y ds := fun hy =>
    Dat.keep (fun p hp hlt => World.cell?_of_block (hg.block p.block hlt (fun e => hp.2.1 e.symm))) (fun b hb => ⟨hb.1, by
      rcases hat with e | e
      · rw [e]; exact hb.2.1
      · rw [e]; intro h; injection h with h; have := hb.2.2; omega, Nat.lt_of_lt_of_le hb.2.2 hg.size⟩) hy
  refine ⟨css ++ [cs], by simpa using hown, by simp [h2], fun i y ds hi hd => ?_⟩
  rcases Nat.lt_or_ge i xs.length with hlt | hge
  · rw [List.getElem?_append_left hlt] at hi
    rw [List.getElem?_append_left (by omega)] at hd
    exact hkeep (h3 i y ds hi hd)
  · have hi' : i = xs.length := by
      have := (List.getElem?_eq_some_iff.1 hi).1
      simp at this; omega
    subst hi'
    simp at hi
    rw [List.getElem?_append_right (by omega)] at hd
    simp [h2] at hd
    subst hi; subst hd
    exact hkeep hrd

/-- append of one element that lies at the head of a block of its own. -/
theorem run_own1 {t ty e : TypeId} {bytes : Nat} (hT : ElemT P α t e bytes) {v : Value} {xs : List α} {x : α} {cs : List Value} {g c : Nat} (hown : Own w S base e v xs)
    (hat : At w g 0 cs) (hrd : Dat.rd w (OwnT S base v w) x cs) (hlen : (xs.length + 1) * bytes ≤ 140737488355328) (hmax : xs.length + 1 ≤ 9223372036854775807) (hbase : base ≤ w.heap.size) :
    ∃ v' w', (Builtin.append_ #[t, t] ty #[v, .slice (some ⟨g, 0, none⟩) 1 c]).run P w = .ok v' w' ∧ Own w' S base e v' (xs ++ [x]) ∧ w.grownBy w' v.ownBlock ∧ (v'.ownBlock = v.ownBlock ∨ v'.ownBlock = some w.heap.size) := by
  obtain ⟨i, z, ht, hi, hz, hsize, hby, hzs⟩ := hT
  obtain ⟨css, h1, h2, h3⟩ := hown
  have hcl := Dat.len hrd
  obtain ⟨v', w', hr, ho, hg, _, h5⟩ := run_append_own_at (P := P) w base t ty e i z (Dat.size α) bytes ht hi hz hsize hby hzs Dat.pos v xs.length css.flatten h1 ⟨g, 0, none⟩ 1 c cs (by omega)
    (by intro j u hu; have h := hat j u hu; have hadd : (⟨g, 0, none⟩ : Addr).add j = ⟨g, 0 + j, none⟩ := by unfold Addr.add; split <;> simp_all
        rw [hadd]; exact h) (Dat.one hrd) (by simpa [maxLen] using hmax) hlen hbase
  exact ⟨v', w', hr, own_snoc h2 h3 hrd ho hg h5, hg, h5⟩
end

section
variable {P : Program} (w : World) {S : Nat → Prop} {base : Nat} {α : Type} [Dat α]
theorem wp_own1 {o : Oper} {a : Act} {K : Act → World → Prop} {Q : Exit → Act → World → Prop} (s xo : Operand) {t e : TypeId} {bytes : Nat} (hT : ElemT P α t e bytes)
    (ho : o.op = .call { callee := .builtin .append, args := #[s, xo], argTypes := #[t, t] })
    {v : Value} {xs : List α} (hs : a.eval s = v) (hown : Own w S base e v xs) (x : α) (cs : List Value) {g c : Nat} (hx : a.eval xo = .slice (some ⟨g, 0, none⟩) 1 c)
    (hat : At w g 0 cs) (hrd : Dat.rd w (OwnT S base v w) x cs) (hlen : (xs.length + 1) * bytes ≤ 140737488355328) (hmax : xs.length + 1 ≤ 9223372036854775807) (hbase : base ≤ w.heap.size)
    (h : ∀ v' w', Own w' S base e v' (xs ++ [x]) → w.grownBy w' v.ownBlock → (v'.ownBlock = v.ownBlock ∨ v'.ownBlock = some w.heap.size) → K (a.put o.dst v') w') : o.wp P a w K Q := by
  obtain ⟨v', w', hrun, h2, h3, h4⟩ := run_own1 (ty := o.type) (c := c) hT hown hat hrd hlen hmax hbase
  unfold Oper.wp execOp
  simp only [ho, resolve, invoke, builtin, Sem.run_bind, Sem.run_pure, Result.andThen_ok, List.map_toArray, List.map_cons, List.map_nil, hs, hx, hrun]
  exact h v' w' h2 h3 h4
theorem wpList_own1 {ops : Array Oper} {rest : List Oper} {o : Oper} {a : Act} {Q : Exit → Act → World → Prop} (hgd : o.guard = none) (s xo : Operand) {t e : TypeId} {bytes : Nat} (hT : ElemT P α t e bytes)
    (ho : o.op = .call { callee := .builtin .append, args := #[s, xo], argTypes := #[t, t] })
    {v : Value} {xs : List α} (hs : a.eval s = v) (hown : Own w S base e v xs) (x : α) (cs : List Value) {g c : Nat} (hx : a.eval xo = .slice (some ⟨g, 0, none⟩) 1 c)
    (hat : At w g 0 cs) (hrd : Dat.rd w (OwnT S base v w) x cs) (hlen : (xs.length + 1) * bytes ≤ 140737488355328) (hmax : xs.length + 1 ≤ 9223372036854775807) (hbase : base ≤ w.heap.size)
    (h : ∀ v' w', Own w' S base e v' (xs ++ [x]) → w.grownBy w' v.ownBlock → (v'.ownBlock = v.ownBlock ∨ v'.ownBlock = some w.heap.size) → wpList P ops Q rest (a.put o.dst v') w') : wpList P ops Q (o :: rest) a w :=
  wpList_plain hgd fun _ hK => wp_own1 w s xo hT ho hs hown x cs hx hat hrd hlen hmax hbase fun v' w' h2 h3 h4 => hK _ _ (h v' w' h2 h3 h4)
theorem step_own1 {ops : Array Oper} {o : Oper} {a : Act} {K : Act → World → Prop} {Q : Exit → Act → World → Prop} {E : Prop} (hgd : o.guard = none) (s xo : Operand) {t e : TypeId} {bytes : Nat} (hT : ElemT P α t e bytes)
    (ho : o.op = .call { callee := .builtin .append, args := #[s, xo], argTypes := #[t, t] })
    {v : Value} {xs : List α} (hs : a.eval s = v) (hown : Own w S base e v xs) (x : α) (cs : List Value) {g c : Nat} (hx : a.eval xo = .slice (some ⟨g, 0, none⟩) 1 c)
    (hat : At w g 0 cs) (hrd : Dat.rd w (OwnT S base v w) x cs) (hlen : (xs.length + 1) * bytes ≤ 140737488355328) (hmax : xs.length + 1 ≤ 9223372036854775807) (hbase : base ≤ w.heap.size)
    (h : ∀ v' w', Own w' S base e v' (xs ++ [x]) → w.grownBy w' v.ownBlock → (v'.ownBlock = v.ownBlock ∨ v'.ownBlock = some w.heap.size) → K (a.put o.dst v') w') :
    if Region.wanted o (yielded ops a.tmps) = true then Oper.wp P o a w K Q else E := by
  have hw : Region.wanted o (yielded ops a.tmps) = true := by simp [Region.wanted, hgd]
  rw [if_pos hw]
  exact wp_own1 w s xo hT ho hs hown x cs hx hat hrd hlen hmax hbase h
end

theorem bcell {W w1 : World} {n : Nat} (hb : Below n W w1) : (∀ b o, b < n → w1.cell? ⟨b, o, none⟩ = W.cell? ⟨b, o, none⟩) ∧ (∀ b o, b < n → w1.frozen? ⟨b, o, none⟩ = W.frozen? ⟨b, o, none⟩) :=
  ⟨fun b o h => hb.cell (p := ⟨b, o, none⟩) h, fun b o h => hb.frozen (p := ⟨b, o, none⟩) h⟩
theorem bdrewN {B n : Nat} {a w : World} (h : Below B a w) : Below B a (w.drewN n) := ⟨h.os, h.tape, h.output, h.size, h.block⟩
/-- A block that is known whole. -/
def Blk' (w : World) (g : Nat) (t : TypeId) (cs : Array Value) : Prop := w.heap[g]? = some (.cells cs t (0, 0))
section
variable {w w' : World} {g : Nat} {t : TypeId} {cs : Array Value}
theorem Blk'.lt (h : Blk' w g t cs) : g < w.heap.size := by
  rcases Nat.lt_or_ge g w.heap.size with hlt | hge
  · exact hlt
  · unfold Blk' at h; rw [Array.getElem?_eq_none hge] at h; cases h
theorem Blk'.cell (h : Blk' w g t cs) (i : Nat) : w.cell? ⟨g, i, none⟩ = cs[i]? := cell_of_row w g i cs t (0, 0) h
theorem Blk'.frozen (h : Blk' w g t cs) (i : Nat) : w.frozen? ⟨g, i, none⟩ = false := by
  unfold Blk' at h
  simp [World.frozen?, h]
theorem Blk'.new (w : World) (t : TypeId) (cs : Array Value) : Blk' (w.alloc (.cells cs t)) w.heap.size t cs := heap_alloc_new w _
theorem Blk'.new' (w : World) (t : TypeId) (cs : Array Value) (h : g = w.heap.size) : Blk' (w.alloc (.cells cs t)) g t cs := by subst h; exact heap_alloc_new w _
theorem Blk'.drew (h : Blk' w g t cs) : Blk' w.drew g t cs := h
theorem Blk'.drewN (h : Blk' w g t cs) (n : Nat) : Blk' (w.drewN n) g t cs := h
theorem Blk'.alloc (h : Blk' w g t cs) (o : Obj) : Blk' (w.alloc o) g t cs := (Below.heap_alloc w o g h.lt).trans h
theorem Blk'.set_ (h : Blk' w g t cs) (i : Nat) (u : Value) : Blk' (w.setCell ⟨g, i, none⟩ u) g t (cs.setIfInBounds i u) := by
  unfold Blk' at h ⊢
  simp [World.setCell, Array.getElem?_modify, h]
theorem Blk'.far (h : Blk' w g t cs) {p : Addr} (hp : g ≠ p.block) (u : Value) : Blk' (w.setCell p u) g t cs := (Below.heap_setCell w p u g hp).trans h
theorem Blk'.below {B : Nat} (h : Blk' w g t cs) (hb : Below B w w') (hg : g < B) : Blk' w' g t cs := (hb.block g hg).trans h
theorem Blk'.grown {row : Option Nat} (h : Blk' w g t cs) (hb : w.grownBy w' row) (hg : some g ≠ row) : Blk' w' g t cs := (hb.block g h.lt hg).trans h
theorem only_drew {row : Option Nat} {a : World} (h : a.grownBy w row) : a.grownBy w.drew row := ⟨h.os, h.tape, h.output, h.size, h.block⟩
theorem only_drewN {row : Option Nat} {a : World} (h : a.grownBy w row) (n : Nat) : a.grownBy (w.drewN n) row := ⟨h.os, h.tape, h.output, h.size, h.block⟩
theorem only_alloc {row : Option Nat} {a : World} (h : a.grownBy w row) (o : Obj) : a.grownBy (w.alloc o) row :=
  ⟨h.os, h.tape, h.output, Nat.le_trans h.size (by simp), fun i hi hne => (Below.heap_alloc w o i (Nat.lt_of_lt_of_le hi h.size)).trans (h.block i hi hne)⟩
theorem only_setCell {row : Option Nat} {a : World} (h : a.grownBy w row) {p : Addr} (hp : row = some p.block ∨ a.heap.size ≤ p.block) (u : Value) : a.grownBy (w.setCell p u) row :=
  ⟨h.os, h.tape, h.output, by simpa [World.setCell] using h.size, fun i hi hne => (Below.heap_setCell w p u i (by
    rintro rfl
    rcases hp with hp | hp
    · exact hne (by rw [hp])
    · omega)).trans (h.block i hi hne)⟩
/-- A later step that turns only blocks that came after a, or the row. -/
theorem only_then {row row' : Option Nat} {a : World} (h : a.grownBy w row) (k : w.grownBy w' row') (hr : row' = row ∨ ∀ i, row' = some i → a.heap.size ≤ i) : a.grownBy w' row :=
  ⟨k.os.trans h.os, k.tape.trans h.tape, k.output.trans h.output, Nat.le_trans h.size k.size, fun i hi hne => (k.block i (Nat.lt_of_lt_of_le hi h.size) (by
    rcases hr with rfl | hr
    · exact hne
    · intro e; have := hr i e.symm; omega)).trans (h.block i hi hne)⟩
theorem only_below {row : Option Nat} {a : World} {B : Nat} (h : a.grownBy w row) (k : Below B w w') (hB : a.heap.size ≤ B) : a.grownBy w' row :=
  ⟨k.os.trans h.os, k.tape.trans h.tape, k.output.trans h.output, Nat.le_trans h.size k.size, fun i hi hne => (k.block i (by omega)).trans (h.block i hi hne)⟩
end
theorem bundrew {B : Nat} {a w : World} (h : Below B a.drew w) : Below B a w := ⟨h.os, h.tape, h.output, h.size, h.block⟩
theorem bundrewN {B n : Nat} {a w : World} (h : Below B (a.drewN n) w) : Below B a w := ⟨h.os, h.tape, h.output, h.size, h.block⟩
theorem bthen {B n : Nat} {a w w' : World} (h : Below B a w) (k : Below n w w') (hn : B ≤ n) : Below B a w' := h.trans (k.mono hn)
/-- What a grownBy leaves of Below. -/
theorem bgrown {B : Nat} {a w w' : World} {v : Value} {S : Nat → Prop} {base : Nat} {e : TypeId} {α : Type} [Dat α] {xs : List α} (h : Below B a w) (hg : w.grownBy w' v.ownBlock) (hown : Own w S base e v xs) (hB : B ≤ base) (hs : B ≤ w.heap.size) : Below B a w' :=
  h.grown hg hs (fun k hk => Nat.le_trans hB (hown.block k hk).1)
end Go.Proofs.Ytecofoilghdedaa

/- The program's data as plain Lean data, and how they read in memory. -/
namespace Go.Proofs.Ytecofoilghdedaa
open Go.RowKit

structure Sym where
  term : Bool
  n : Int
  deriving DecidableEq, Repr
structure Rule where
  left : Int
  right : List Sym
  deriving DecidableEq, Repr
structure Gram where
  terms : Int
  nons : Int
  start : Int
  rules : List Rule
  deriving DecidableEq, Repr
inductive Tree where
  | mk (rule term : Int) (kids : List Tree)
def Tree.rule : Tree → Int | ⟨r, _, _⟩ => r
def Tree.term : Tree → Int | ⟨_, t, _⟩ => t
def Tree.kids : Tree → List Tree | ⟨_, _, ks⟩ => ks

instance instDatSym : Dat Sym where
  size := 2
  wraps := true
  rd _ _ s cs := cs = [.bool s.term, .int .i64 s.n] ∧ I64 s.n
  len h := by rw [h.1]; rfl
  pos := by decide
  flat h := by simp at h
  one h := by rw [h.1]; intro u hu; simp at hu; rcases hu with rfl | rfl <;> rfl
  keep _ _ h := h
instance instDatRule : Dat Rule where
  size := 2
  wraps := true
  rd w S r cs := ∃ v, cs = [.int .i64 r.left, v] ∧ I64 r.left ∧ Vl w S r.right v
  len h := by obtain ⟨v, rfl, _⟩ := h; rfl
  pos := by decide
  flat h := by simp at h
  one h := by
    obtain ⟨v, rfl, _, hv⟩ := h
    obtain ⟨A, c, rfl, _⟩ := hv.slice
    intro u hu; simp at hu; rcases hu with rfl | rfl <;> rfl
  keep hk hS h := by obtain ⟨v, h1, h2, h3⟩ := h; exact ⟨v, h1, h2, h3.keep hk hS⟩
instance instDatGram : Dat Gram where
  size := 4
  wraps := true
  rd w S g cs := ∃ v, cs = [.int .i64 g.terms, .int .i64 g.nons, .int .i64 g.start, v] ∧ I64 g.terms ∧ I64 g.nons ∧ I64 g.start ∧ Vl w S g.rules v
  len h := by obtain ⟨v, rfl, _⟩ := h; rfl
  pos := by decide
  flat h := by simp at h
  one h := by
    obtain ⟨v, rfl, _, _, _, hv⟩ := h
    obtain ⟨A, c, rfl, _⟩ := hv.slice
    intro u hu; simp at hu; rcases hu with rfl | rfl | rfl | rfl <;> rfl
  keep hk hS h := by obtain ⟨v, h1, h2, h3, h4, h5⟩ := h; exact ⟨v, h1, h2, h3, h4, h5.keep hk hS⟩

/-! Trees: the reading by recursion. -/
mutual
def rdT (w : World) (S : Nat → Prop) : Tree → List Value → Prop
  | ⟨r, t, ks⟩, cs => I64 r ∧ I64 t ∧ ∃ A c, cs = [.int .i64 r, .int .i64 t, .slice A ks.length c] ∧ ks.length ≤ c ∧ c ≤ maxLen ∧ (ks ≠ [] → ∃ b o, A = some ⟨b, o, none⟩ ∧ S b ∧ rdTs w S ks b o)
def rdTs (w : World) (S : Nat → Prop) : List Tree → Nat → Nat → Prop
  | [], _, _ => True
  | k :: ks, b, o => (∃ cs, rdT w S k cs ∧ At w b o cs) ∧ rdTs w S ks b (o + 3)
end
theorem rdT_len {w : World} {S : Nat → Prop} {t : Tree} {cs : List Value} (h : rdT w S t cs) : cs.length = 3 := by
  cases t with
  | mk r t ks => unfold rdT at h; obtain ⟨_, _, A, c, rfl, _⟩ := h; rfl
theorem rdTs_iff {w : World} {S : Nat → Prop} : ∀ (ks : List Tree) (b o : Nat), rdTs w S ks b o ↔ ∀ (i : Nat) (x : Tree), ks[i]? = some x → ∃ cs, rdT w S x cs ∧ At w b (o + i * 3) cs
  | [], b, o => by simp [rdTs]
  | k :: ks, b, o => by
    rw [rdTs, rdTs_iff ks]
    constructor
    · rintro ⟨h1, h2⟩ i x hi
      match i with
      | 0 => simp at hi; subst hi; simpa using h1
      | i + 1 =>
        have := h2 i x (by simpa using hi)
        rw [show o + (i + 1) * 3 = o + 3 + i * 3 from by omega]
        exact this
    · intro h
      refine ⟨by simpa using h 0 k rfl, fun i x hi => ?_⟩
      have := h (i + 1) x (by simpa using hi)
      rw [show o + 3 + i * 3 = o + (i + 1) * 3 from by omega]
      exact this
mutual
theorem rdT_keep {w w' : World} {S S' : Nat → Prop} (hk : ∀ p : Addr, S p.block → p.block < w.heap.size → w'.cell? p = w.cell? p) (hS : ∀ b, S b → S' b) : ∀ (t : Tree) (cs : List Value), rdT w S t cs → rdT w' S' t cs
  | ⟨r, t, ks⟩, cs, h => by
    unfold rdT at h ⊢
    obtain ⟨h1, h2, A, c, h3, h4, h5, h6⟩ := h
    refine ⟨h1, h2, A, c, h3, h4, h5, fun hne => ?_⟩
    obtain ⟨b, o, hA, hb, hks⟩ := h6 hne
    exact ⟨b, o, hA, hS _ hb, rdTs_keep hk hS ks b o hb hks⟩
theorem rdTs_keep {w w' : World} {S S' : Nat → Prop} (hk : ∀ p : Addr, S p.block → p.block < w.heap.size → w'.cell? p = w.cell? p) (hS : ∀ b, S b → S' b) : ∀ (ks : List Tree) (b o : Nat), S b → rdTs w S ks b o → rdTs w' S' ks b o
  | [], _, _, _, _ => by simp [rdTs]
  | k :: ks, b, o, hb, h => by
    rw [rdTs] at h ⊢
    obtain ⟨⟨cs, h1, h2⟩, h3⟩ := h
    have hlt : b < w.heap.size := h2.lt (by rw [rdT_len h1]; decide)
    exact ⟨⟨cs, rdT_keep hk hS k cs h1, h2.keep fun p hp => hk p (hp ▸ hb) (hp ▸ hlt)⟩, rdTs_keep hk hS ks b (o + 3) hb h3⟩
end
instance instDatTree : Dat Tree where
  size := 3
  wraps := true
  rd := rdT
  len := rdT_len
  pos := by decide
  flat h := by simp at h
  one {w S t cs} h := by
    cases t with
    | mk r t ks =>
      unfold rdT at h; obtain ⟨_, _, A, c, rfl, _⟩ := h
      intro u hu; simp at hu; rcases hu with rfl | rfl | rfl <;> rfl
  keep hk hS h := rdT_keep hk hS _ _ h
theorem rd_tree {w : World} {S : Nat → Prop} {t : Tree} {cs : List Value} : Dat.rd w S t cs ↔ ∃ v, cs = [.int .i64 t.rule, .int .i64 t.term, v] ∧ I64 t.rule ∧ I64 t.term ∧ Vl w S t.kids v := by
  cases t with
  | mk r t ks =>
    show rdT w S _ cs ↔ _
    unfold rdT
    constructor
    · rintro ⟨h1, h2, A, c, rfl, h4, h5, h6⟩
      refine ⟨_, rfl, h1, h2, Vl.of_slice rfl h4 (by simpa [maxLen] using h5) fun hne => ?_⟩
      obtain ⟨b, o, hA, hb, hks⟩ := h6 hne
      exact ⟨b, o, hA, hb, (rdTs_iff _ _ _).1 hks⟩
    · rintro ⟨v, rfl, h1, h2, hv⟩
      obtain ⟨A, c, rfl, h4, h5, h6⟩ := hv.slice
      refine ⟨h1, h2, A, c, rfl, h4, by simpa [maxLen] using h5, fun hne => ?_⟩
      obtain ⟨b, o, hA, hb, hks⟩ := h6 hne
      exact ⟨b, o, hA, hb, (rdTs_iff _ _ _).2 hks⟩

section
variable {w : World} {S : Nat → Prop}
theorem Vl.sym {s : Sym} {v : Value} (h : Vl w S s v) : v = .agg #[.bool s.term, .int .i64 s.n] ∧ I64 s.n := by
  obtain ⟨cs, ⟨rfl, h1⟩, hv⟩ := h
  exact ⟨hv, h1⟩
theorem Vl.of_sym {s : Sym} (h : I64 s.n) : Vl w S s (.agg #[.bool s.term, .int .i64 s.n]) := ⟨_, ⟨rfl, h⟩, rfl⟩
theorem Vl.rule {r : Rule} {v : Value} (h : Vl w S r v) : ∃ s, v = .agg #[.int .i64 r.left, s] ∧ I64 r.left ∧ Vl w S r.right s := by
  obtain ⟨cs, ⟨s, rfl, h1, h2⟩, hv⟩ := h
  exact ⟨s, hv, h1, h2⟩
theorem Vl.of_rule {r : Rule} {s : Value} (h1 : I64 r.left) (h2 : Vl w S r.right s) : Vl w S r (.agg #[.int .i64 r.left, s]) := ⟨_, ⟨s, rfl, h1, h2⟩, rfl⟩
theorem Vl.gram {g : Gram} {v : Value} (h : Vl w S g v) : ∃ s, v = .agg #[.int .i64 g.terms, .int .i64 g.nons, .int .i64 g.start, s] ∧ I64 g.terms ∧ I64 g.nons ∧ I64 g.start ∧ Vl w S g.rules s := by
  obtain ⟨cs, ⟨s, rfl, h1, h2, h3, h4⟩, hv⟩ := h
  exact ⟨s, hv, h1, h2, h3, h4⟩
theorem Vl.of_gram {g : Gram} {s : Value} (h1 : I64 g.terms) (h2 : I64 g.nons) (h3 : I64 g.start) (h4 : Vl w S g.rules s) : Vl w S g (.agg #[.int .i64 g.terms, .int .i64 g.nons, .int .i64 g.start, s]) := ⟨_, ⟨s, rfl, h1, h2, h3, h4⟩, rfl⟩
theorem Vl.tree {t : Tree} {v : Value} (h : Vl w S t v) : ∃ s, v = .agg #[.int .i64 t.rule, .int .i64 t.term, s] ∧ I64 t.rule ∧ I64 t.term ∧ Vl w S t.kids s := by
  obtain ⟨cs, hr, hv⟩ := h
  obtain ⟨s, rfl, h1, h2, h3⟩ := rd_tree.1 hr
  exact ⟨s, hv, h1, h2, h3⟩
theorem Vl.of_tree {t : Tree} {s : Value} (h1 : I64 t.rule) (h2 : I64 t.term) (h3 : Vl w S t.kids s) : Vl w S t (.agg #[.int .i64 t.rule, .int .i64 t.term, s]) := ⟨_, rd_tree.2 ⟨s, rfl, h1, h2, h3⟩, rfl⟩
end

/-! The elements of a slice, for a walk: the cells as the walk spells their addresses. -/
section
variable {w : World} {S : Nat → Prop} {A : Option Addr} {k : Nat}
theorem Els.int {xs : List Int} {x : Int} (h : Els w S xs A) (hk : xs[k]? = some x) : ∃ b o, A = some ⟨b, o, none⟩ ∧ S b ∧ b < w.heap.size ∧ I64 x ∧ w.cell? ⟨b, o + k, none⟩ = some (.int .i64 x) := by
  obtain ⟨b, o, cs, hA, hS, hb, ⟨rfl, h1⟩, hc⟩ := h.at_ hk
  exact ⟨b, o, hA, hS, hb, h1, by have h := hc.c0; rwa [show o + k * Dat.size Int = o + k from by show o + k * 1 = _; omega] at h⟩
theorem Els.bool {xs : List Bool} {x : Bool} (h : Els w S xs A) (hk : xs[k]? = some x) : ∃ b o, A = some ⟨b, o, none⟩ ∧ S b ∧ b < w.heap.size ∧ w.cell? ⟨b, o + k, none⟩ = some (.bool x) := by
  obtain ⟨b, o, cs, hA, hS, hb, rfl, hc⟩ := h.at_ hk
  exact ⟨b, o, hA, hS, hb, by have h := hc.c0; rwa [show o + k * Dat.size Bool = o + k from by show o + k * 1 = _; omega] at h⟩
theorem Els.list {α : Type} [Dat α] {xs : List (List α)} {x : List α} (h : Els w S xs A) (hk : xs[k]? = some x) : ∃ b o A' c, A = some ⟨b, o, none⟩ ∧ S b ∧ b < w.heap.size ∧ x.length ≤ c ∧ c ≤ 9223372036854775807 ∧ Els w S x A' ∧ w.cell? ⟨b, o + k, none⟩ = some (.slice A' x.length c) := by
  obtain ⟨b, o, cs, hA, hS, hb, ⟨A', c, rfl, h2, h3, h4⟩, hc⟩ := h.at_ hk
  exact ⟨b, o, A', c, hA, hS, hb, h2, by simpa [maxLen] using h3, h4, by have h := hc.c0; rwa [show o + k * Dat.size (List α) = o + k from by show o + k * 1 = _; omega] at h⟩
theorem Els.sym {xs : List Sym} {x : Sym} (h : Els w S xs A) (hk : xs[k]? = some x) :
    ∃ b o, A = some ⟨b, o, none⟩ ∧ S b ∧ b < w.heap.size ∧ I64 x.n ∧ w.cell? ⟨b, o + k * 2, none⟩ = some (.bool x.term) ∧ w.cell? ⟨b, o + k * 2 + 1, none⟩ = some (.int .i64 x.n) := by
  obtain ⟨b, o, cs, hA, hS, hb, ⟨rfl, h1⟩, hc⟩ := h.at_ hk
  exact ⟨b, o, hA, hS, hb, h1, hc.c0, hc.c1⟩
theorem Els.rule {xs : List Rule} {x : Rule} (h : Els w S xs A) (hk : xs[k]? = some x) :
    ∃ b o A' c, A = some ⟨b, o, none⟩ ∧ S b ∧ b < w.heap.size ∧ I64 x.left ∧ x.right.length ≤ c ∧ c ≤ 9223372036854775807 ∧ Els w S x.right A' ∧ w.cell? ⟨b, o + k * 2, none⟩ = some (.int .i64 x.left) ∧ w.cell? ⟨b, o + k * 2 + 1, none⟩ = some (.slice A' x.right.length c) := by
  obtain ⟨b, o, cs, hA, hS, hb, ⟨v, rfl, h1, hv⟩, hc⟩ := h.at_ hk
  obtain ⟨A', c, rfl, h2, h3, h4⟩ := hv.slice
  exact ⟨b, o, A', c, hA, hS, hb, h1, h2, h3, h4, hc.c0, hc.c1⟩
theorem Els.tree {xs : List Tree} {x : Tree} (h : Els w S xs A) (hk : xs[k]? = some x) :
    ∃ b o A' c, A = some ⟨b, o, none⟩ ∧ S b ∧ b < w.heap.size ∧ I64 x.rule ∧ I64 x.term ∧ x.kids.length ≤ c ∧ c ≤ 9223372036854775807 ∧ Els w S x.kids A' ∧ w.cell? ⟨b, o + k * 3, none⟩ = some (.int .i64 x.rule) ∧ w.cell? ⟨b, o + k * 3 + 1, none⟩ = some (.int .i64 x.term) ∧ w.cell? ⟨b, o + k * 3 + 1 + 1, none⟩ = some (.slice A' x.kids.length c) := by
  obtain ⟨b, o, cs, hA, hS, hb, hr, hc⟩ := h.at_ hk
  obtain ⟨v, rfl, h1, h1', hv⟩ := rd_tree.1 hr
  obtain ⟨A', c, rfl, h2, h3, h4⟩ := hv.slice
  exact ⟨b, o, A', c, hA, hS, hb, h1, h1', h2, h3, h4, hc.c0, hc.c1, hc.d2⟩
end
end Go.Proofs.Ytecofoilghdedaa

/- From the form's reading of an argument to plain data: what a reading gives, type by type, and how much of the bound it takes. -/
namespace Go.Proofs.Ytecofoilghdedaa
open Go.RowKit Go.ChangeShapes Go.WideShapes Go.Deep

class Blk (α : Type) where
  blk : α → Nat
instance instBlkInt : Blk Int := ⟨fun _ => 1⟩
instance instBlkBool : Blk Bool := ⟨fun _ => 1⟩
def blkAll {α : Type} [Blk α] : List α → Nat
  | [] => 0
  | x :: xs => Blk.blk x + blkAll xs
instance instBlkList {α : Type} [Blk α] : Blk (List α) := ⟨fun l => blkAll l + 1⟩
instance instBlkSym : Blk Sym := ⟨fun _ => 3⟩
instance instBlkRule : Blk Rule := ⟨fun r => 2 + Blk.blk r.right⟩
instance instBlkGram : Blk Gram := ⟨fun g => 4 + Blk.blk g.rules⟩
mutual
def blkTree : Tree → Nat
  | ⟨_, _, ks⟩ => 3 + blkTrees ks + 1
def blkTrees : List Tree → Nat
  | [] => 0
  | k :: ks => blkTree k + blkTrees ks
end
instance instBlkTree : Blk Tree := ⟨blkTree⟩
theorem blkTrees_eq : ∀ ks : List Tree, blkTrees ks = blkAll ks
  | [] => rfl
  | k :: ks => by rw [blkTrees, blkAll, blkTrees_eq ks]; rfl

def OldS (w : World) (b : Nat) : Prop := b < w.heap.size
/-- What the type t reads as. -/
def Opens (P : Program) (α : Type) [Dat α] [Blk α] (t : TypeId) : Prop :=
  ∀ {H : Type} (enc : TypeId × Value → H) (w : World) (base : Nat) (spare : Nat → Bool) (held : Bool) (fuel : Nat) (cs : List Value) (y : DataW H × List MemPlace),
    DataW.trod enc P w base spare held fuel t cs = some y → ∃ x : α, Dat.rd w (OldS w) x cs ∧ Blk.blk x ≤ Rows.uptoBulk y.1

theorem i64_of_wf {n : Int} (h : (Lit.int .i64 n).wf = true) : I64 n := by
  simpa [Lit.wf, IntKind.min, IntKind.max, IntKind.signed, IntKind.bits, I64] using h

section
variable {P : Program}
theorem opens_int {t : TypeId} (ht : P.underlying t = some (.int .i64)) : Opens P Int t := by
  intro H enc w base spare held fuel cs y h
  obtain ⟨n, rfl, rfl, hw⟩ := DataW.trod_int ht h
  exact ⟨n, ⟨rfl, i64_of_wf hw⟩, by simp [Rows.uptoBulk, Blk.blk]⟩
theorem opens_bool {t : TypeId} (ht : P.underlying t = some .bool) : Opens P Bool t := by
  intro H enc w base spare held fuel cs y h
  obtain ⟨n, rfl, rfl⟩ := DataW.trod_bool ht h
  exact ⟨n, rfl, by simp [Rows.uptoBulk, Blk.blk]⟩

theorem list_of_lt {α : Type} {R : Nat → α → Prop} : ∀ (n : Nat), (∀ i, i < n → ∃ x, R i x) → ∃ xs : List α, xs.length = n ∧ ∀ (i : Nat) (x : α), xs[i]? = some x → R i x
  | 0, _ => ⟨[], rfl, by simp⟩
  | n + 1, h => by
    obtain ⟨xs, hl, hx⟩ := list_of_lt n (fun i hi => h i (by omega))
    obtain ⟨x, hr⟩ := h n (by omega)
    refine ⟨xs ++ [x], by simp [hl], fun i y hi => ?_⟩
    rcases Nat.lt_or_ge i xs.length with h1 | h1
    · rw [List.getElem?_append_left h1] at hi; exact hx i y hi
    · have h2 : i = n := by have := (List.getElem?_eq_some_iff.1 hi).1; simp at this; omega
      subst h2
      rw [List.getElem?_append_right h1] at hi
      simp [hl] at hi
      subst hi; exact hr
theorem bulkAll_range {H : Type} {α : Type} [Blk α] (D : Nat → DataW H) : ∀ (xs : List α) (s : Nat), (∀ (i : Nat) (x : α), xs[i]? = some x → Blk.blk x ≤ Rows.uptoBulk (D (s + i))) → blkAll xs ≤ Rows.uptoBulkAll ((List.range' s xs.length).map D)
  | [], _, _ => by simp [blkAll]
  | x :: xs, s, h => by
    have h0 := h 0 x rfl
    have ih := bulkAll_range D xs (s + 1) (fun i y hi => by have := h (i + 1) y (by simpa using hi); rwa [show s + (i + 1) = s + 1 + i from by omega] at this)
    simp only [List.length_cons, List.range'_succ, List.map_cons, blkAll, Rows.uptoBulkAll]
    simp only [Nat.add_zero] at h0
    omega
theorem addr_add {b o n : Nat} : (⟨b, o, none⟩ : Addr).add n = ⟨b, o + n, none⟩ := by unfold Addr.add; split <;> simp_all
theorem els_of_cells {α : Type} [Dat α] {w : World} {base : Nat} {a : Addr} {len : Nat} {xs : List α} (_hl : xs.length = len)
    (h : ∀ (i : Nat) (x : α), xs[i]? = some x → ∃ cs, w.cells? base (a.add (i * Dat.size α)) (Dat.size α) = some cs ∧ Dat.rd w (OldS w) x cs) : Els w (OldS w) xs (some a) := by
  intro hne
  obtain ⟨x0, hx0⟩ : ∃ x, xs[0]? = some x := ⟨_, List.getElem?_eq_getElem (List.length_pos_iff.2 hne)⟩
  have hcell : ∀ (i : Nat) (x : α), xs[i]? = some x → ∃ cs, Dat.rd w (OldS w) x cs ∧ ∀ j u, cs[j]? = some u → w.cell? ((a.add (i * Dat.size α)).add j) = some u := by
    intro i x hi
    obtain ⟨cs, h1, h2⟩ := h i x hi
    obtain ⟨_, hcl, hat⟩ := World.cells?_some h1
    exact ⟨cs, h2, fun j u hu => (hat j (by have := (List.getElem?_eq_some_iff.1 hu).1; rwa [Dat.len h2] at this)).trans hu⟩
  obtain ⟨cs0, h1, h2⟩ := hcell 0 x0 hx0
  have hp : 0 < cs0.length := by rw [Dat.len h1]; exact Dat.pos
  have hc0 := h2 0 cs0[0] (List.getElem?_eq_getElem hp)
  have ha0 : (a.add (0 * Dat.size α)).add 0 = a := by simp [Addr.add]
  rw [ha0] at hc0
  obtain ⟨b, o, spot⟩ := a
  have hspot : spot = none := by simpa using World.cell?_spot hc0
  subst hspot
  have hb : b < w.heap.size := World.block_lt_of_cell? w _ hc0
  refine ⟨b, o, rfl, hb, fun i x hi => ?_⟩
  obtain ⟨cs, h3, h4⟩ := hcell i x hi
  exact ⟨cs, h3, fun j u hu => by have := h4 j u hu; rwa [addr_add, addr_add] at this⟩
theorem opens_slice {α : Type} [Dat α] [Blk α] {t e : TypeId} (ht : P.underlying t = some (.slice e)) (hC : P.cellsOf e = Dat.size α) (he : Opens P α e) : Opens P (List α) t := by
  intro H enc w base spare held fuel cs y h
  rcases open_slice ht h with ⟨rfl, rfl⟩ | ⟨a, len, cap, m, n, D, Pl, rfl, hb, hl, hm, hmm, rfl, hi⟩
  · exact ⟨[], ⟨none, 0, rfl, by simp, by simp, fun h => absurd rfl h⟩, by simp [Rows.uptoBulk, Blk.blk, blkAll]⟩
  · have hlm : len ≤ m := by rw [hmm]; split <;> omega
    obtain ⟨xs, hxl, hx⟩ := list_of_lt (R := fun i (x : α) => (∃ cs, w.cells? base (a.add (i * Dat.size α)) (Dat.size α) = some cs ∧ Dat.rd w (OldS w) x cs) ∧ Blk.blk x ≤ Rows.uptoBulk (D i)) len (fun i hil => by
      obtain ⟨cs', hc, ht'⟩ := hi i (by omega)
      obtain ⟨x, h1, h2⟩ := he enc w base spare held n cs' _ ht'
      rw [hC] at hc
      exact ⟨x, ⟨cs', hc, h1⟩, h2⟩)
    refine ⟨xs, ⟨some a, cap, by rw [hxl], by omega, hm, els_of_cells hxl fun i x hi => (hx i x hi).1⟩, ?_⟩
    have hb := bulkAll_range D xs 0 (fun i x hi => by simpa using (hx i x hi).2)
    rw [hxl, ← List.range_eq_range'] at hb
    simp only [Rows.uptoBulk, Blk.blk]
    omega

/-- The fields of a struct, each of one cell. -/
theorem trod_fields {H : Type} {enc : TypeId × Value → H} {w : World} {base : Nat} {spare : Nat → Bool} {held : Bool} {t : TypeId} {fs : Array Field} {fuel : Nat} {cs : List Value} {y : DataW H × List MemPlace} (hs : P.underlying t = some (.struct fs)) (hone : oneCellFields P fs = true) (hC : P.cellsOf t = fs.size)
    (h : DataW.trod enc P w base spare held fuel t cs = some y) :
    ∃ (n : Nat) (ys : List (DataW H × List MemPlace)), fuel = n + 1 ∧ y.1 = .agg (ys.map (·.1)) ∧ cs.length = fs.size ∧ ys.length = fs.size ∧
      ∀ (j : Nat) (f : Field) (c : Value) (z : DataW H × List MemPlace), fs[j]? = some f → cs[j]? = some c → ys[j]? = some z → DataW.trod enc P w base spare held n f.type [c] = some z := by
  obtain ⟨ys, n, hn, hy, hlen, hyl, hf⟩ := DataW.trod_struct hs h
  refine ⟨n, ys, hn, by rw [hy], hlen.trans hC, hyl, fun j f c z hj hc hz => ?_⟩
  obtain ⟨ho, hk⟩ := hone_of hone j f hj
  have h1 := hf j f hj
  rw [ho, hk] at h1
  obtain ⟨hlt, rfl⟩ := List.getElem?_eq_some_iff.1 hc
  have hone' : (cs.drop j).take 1 = [cs[j]] := by
    rw [List.drop_eq_getElem_cons hlt]
    rfl
  rw [hone'] at h1
  exact h1.trans hz

theorem opens_sym {t : TypeId} {f0 f1 : Field} (hs : P.underlying t = some (.struct #[f0, f1])) (hone : oneCellFields P #[f0, f1] = true) (hC : P.cellsOf t = 2) (h0 : Opens P Bool f0.type) (h1 : Opens P Int f1.type) : Opens P Sym t := by
  intro H enc w base spare held fuel cs y h
  obtain ⟨n, ys, _, hy, hl, hyl, hf⟩ := trod_fields hs hone hC h
  match cs, hl, ys, hyl with
  | [c0, c1], _, [y0, y1], _ =>
    obtain ⟨b, hb, _⟩ := h0 enc w base spare held n [c0] y0 (hf 0 f0 c0 y0 rfl rfl rfl)
    obtain ⟨z, ⟨hz, hz'⟩, _⟩ := h1 enc w base spare held n [c1] y1 (hf 1 f1 c1 y1 rfl rfl rfl)
    have hb1 : [c0] = [Value.bool b] := hb
    obtain rfl : c0 = .bool b := by simpa using hb1
    obtain rfl : c1 = .int .i64 z := by simpa using hz
    refine ⟨⟨b, z⟩, ⟨rfl, hz'⟩, ?_⟩
    have b0 : ∀ d : DataW H, 1 ≤ Rows.uptoBulk d := fun d => by
      cases d with
      | lit l => cases l <;> simp [Rows.uptoBulk]
      | _ => simp [Rows.uptoBulk]
    have := b0 y0.1
    have := b0 y1.1
    rw [hy]
    simp only [List.map_cons, List.map_nil, Rows.uptoBulk, Rows.uptoBulkAll, Blk.blk]
    omega
theorem opens_rule {t : TypeId} {f0 f1 : Field} (hs : P.underlying t = some (.struct #[f0, f1])) (hone : oneCellFields P #[f0, f1] = true) (hC : P.cellsOf t = 2) (h0 : Opens P Int f0.type) (h1 : Opens P (List Sym) f1.type) : Opens P Rule t := by
  intro H enc w base spare held fuel cs y h
  obtain ⟨n, ys, _, hy, hl, hyl, hf⟩ := trod_fields hs hone hC h
  match cs, hl, ys, hyl with
  | [c0, c1], _, [y0, y1], _ =>
    obtain ⟨z, ⟨hz, hz'⟩, hbz⟩ := h0 enc w base spare held n [c0] y0 (hf 0 f0 c0 y0 rfl rfl rfl)
    obtain ⟨r, hr, hbr⟩ := h1 enc w base spare held n [c1] y1 (hf 1 f1 c1 y1 rfl rfl rfl)
    obtain rfl : c0 = .int .i64 z := by simpa using hz
    obtain ⟨v, hv, hvl⟩ := rd_slice hr
    obtain rfl : c1 = v := by simpa using hv
    refine ⟨⟨z, r⟩, ⟨c1, rfl, hz', hvl⟩, ?_⟩
    rw [hy]
    have e1 : Blk.blk z = 1 := rfl
    simp only [List.map_cons, List.map_nil, Rows.uptoBulk, Rows.uptoBulkAll]
    show 2 + Blk.blk r ≤ _
    omega
theorem opens_gram {t : TypeId} {f0 f1 f2 f3 : Field} (hs : P.underlying t = some (.struct #[f0, f1, f2, f3])) (hone : oneCellFields P #[f0, f1, f2, f3] = true) (hC : P.cellsOf t = 4) (h0 : Opens P Int f0.type) (h1 : Opens P Int f1.type) (h2 : Opens P Int f2.type) (h3 : Opens P (List Rule) f3.type) : Opens P Gram t := by
  intro H enc w base spare held fuel cs y h
  obtain ⟨n, ys, _, hy, hl, hyl, hf⟩ := trod_fields hs hone hC h
  match cs, hl, ys, hyl with
  | [c0, c1, c2, c3], _, [y0, y1, y2, y3], _ =>
    obtain ⟨z0, ⟨hz0, hz0'⟩, hb0⟩ := h0 enc w base spare held n [c0] y0 (hf 0 f0 c0 y0 rfl rfl rfl)
    obtain ⟨z1, ⟨hz1, hz1'⟩, hb1⟩ := h1 enc w base spare held n [c1] y1 (hf 1 f1 c1 y1 rfl rfl rfl)
    obtain ⟨z2, ⟨hz2, hz2'⟩, hb2⟩ := h2 enc w base spare held n [c2] y2 (hf 2 f2 c2 y2 rfl rfl rfl)
    obtain ⟨r, hr, hbr⟩ := h3 enc w base spare held n [c3] y3 (hf 3 f3 c3 y3 rfl rfl rfl)
    obtain rfl : c0 = .int .i64 z0 := by simpa using hz0
    obtain rfl : c1 = .int .i64 z1 := by simpa using hz1
    obtain rfl : c2 = .int .i64 z2 := by simpa using hz2
    obtain ⟨v, hv, hvl⟩ := rd_slice hr
    obtain rfl : c3 = v := by simpa using hv
    refine ⟨⟨z0, z1, z2, r⟩, ⟨c3, rfl, hz0', hz1', hz2', hvl⟩, ?_⟩
    rw [hy]
    have e0 : Blk.blk z0 = 1 := rfl
    have e1 : Blk.blk z1 = 1 := rfl
    have e2 : Blk.blk z2 = 1 := rfl
    simp only [List.map_cons, List.map_nil, Rows.uptoBulk, Rows.uptoBulkAll]
    show 4 + Blk.blk r ≤ _
    omega

/-- An argument, opened. -/
theorem open_arg_struct {H : Type} {enc : TypeId × Value → H} {w : World} {base b0 : Nat} {r : Reach} {spare : Nat → Bool} {held : Bool} {α : Type} [Dat α] [Blk α] {t : TypeId} {fs : Array Field} {v : Value} {d : DataW H} {p : List MemPlace} (hw : Dat.wraps α = true) (hs : P.underlying t = some (.struct fs)) (hO : Opens P α t)
    (hv : Value.okWide P w r b0 t v) (h : DataW.Trod enc P w base spare held t v d p) : ∃ x : α, Vl w (OldS w) x v ∧ Blk.blk x ≤ Rows.uptoBulk d := by
  obtain ⟨cs, rfl, _⟩ := okWide_struct hs hv
  obtain ⟨fuel, hf⟩ := h
  obtain ⟨x, h1, h2⟩ := hO enc w base spare held fuel _ _ hf
  exact ⟨x, ⟨_, h1, by rw [if_pos hw]; rfl⟩, h2⟩
theorem open_arg_slice {H : Type} {enc : TypeId × Value → H} {w : World} {base b0 : Nat} {r : Reach} {spare : Nat → Bool} {held : Bool} {α : Type} [Dat α] [Blk α] {t e : TypeId} {v : Value} {d : DataW H} {p : List MemPlace} (hs : P.underlying t = some (.slice e)) (hO : Opens P (List α) t)
    (hv : Value.okWide P w r b0 t v) (h : DataW.Trod enc P w base spare held t v d p) : ∃ x : List α, Vl w (OldS w) x v ∧ Blk.blk x ≤ Rows.uptoBulk d := by
  obtain ⟨a, len, cap, rfl⟩ := okWide_slice hs hv
  obtain ⟨fuel, hf⟩ := h
  obtain ⟨x, h1, h2⟩ := hO enc w base spare held fuel _ _ hf
  exact ⟨x, ⟨_, h1, rfl⟩, h2⟩
theorem open_arg_int {H : Type} {enc : TypeId × Value → H} {w : World} {base b0 : Nat} {r : Reach} {spare : Nat → Bool} {held : Bool} {t : TypeId} {v : Value} {d : DataW H} {p : List MemPlace} (hs : P.underlying t = some (.int .i64))
    (hv : Value.okWide P w r b0 t v) (h : DataW.Trod enc P w base spare held t v d p) : ∃ x : Int, Vl w (OldS w) x v ∧ Blk.blk x ≤ Rows.uptoBulk d := by
  obtain ⟨n, rfl⟩ := okWide_int hs hv
  obtain ⟨fuel, hf⟩ := h
  obtain ⟨x, h1, h2⟩ := opens_int hs enc w base spare held fuel _ _ hf
  exact ⟨x, ⟨_, h1, rfl⟩, h2⟩
end
theorem blk_len {α : Type} [Blk α] (hb : ∀ x : α, 1 ≤ Blk.blk x) : ∀ (xs : List α), xs.length ≤ blkAll xs
  | [] => by simp [blkAll]
  | x :: xs => by have := blk_len hb xs; have := hb x; simp only [List.length_cons, blkAll]; omega
theorem upto_bound {H : Type} {l : List (DataW H)} (hk : Rows.uptoSmall H l = true) : Rows.uptoBulkAll l ≤ 1048576 := by
  simpa [Rows.uptoSmall] using hk
end Go.Proofs.Ytecofoilghdedaa

/- What the seat's own types read as. -/
namespace Go.Proofs.Ytecofoilghdedaa
open Go.RowKit
theorem opensSym : Opens Try.prog Sym 63 := opens_sym Try.underlying63 (by kernel_rfl) (by kernel_rfl) (opens_bool Try.underlying4) (opens_int Try.underlying3)
theorem opensSyms : Opens Try.prog (List Sym) 59 := opens_slice Try.underlying59 (by kernel_rfl) opensSym
theorem opensRule : Opens Try.prog Rule 61 := opens_rule Try.underlying61 (by kernel_rfl) (by kernel_rfl) (opens_int Try.underlying3) opensSyms
theorem opensRules : Opens Try.prog (List Rule) 23 := opens_slice Try.underlying23 (by kernel_rfl) opensRule
theorem opensGram : Opens Try.prog Gram 25 := opens_gram Try.underlying25 (by kernel_rfl) (by kernel_rfl) (opens_int Try.underlying3) (opens_int Try.underlying3) (opens_int Try.underlying3) opensRules
theorem opensInts : Opens Try.prog (List Int) 22 := opens_slice Try.underlying22 (by kernel_rfl) (opens_int Try.underlying3)
end Go.Proofs.Ytecofoilghdedaa

/- Appending a whole slice onto a row of the call's own; a row made with room by append-of-make. -/
namespace Go.Proofs.Ytecofoilghdedaa
open Go.RowKit

theorem Els.lists {α : Type} [Dat α] {w : World} {S : Nat → Prop} {b o : Nat} : ∀ (xs : List α) (s : Nat),
    (∀ i x, xs[i]? = some x → ∃ cs, Dat.rd w S x cs ∧ At w b (o + (s + i) * Dat.size α) cs) →
    ∃ css : List (List Value), css.length = xs.length ∧ (∀ (i : Nat) (x : α) (cs : List Value), xs[i]? = some x → css[i]? = some cs → Dat.rd w S x cs) ∧ At w b (o + s * Dat.size α) css.flatten
  | [], s, _ => ⟨[], rfl, by simp, by intro j u hu; simp at hu⟩
  | x :: xs, s, h => by
    obtain ⟨cs, h1, h2⟩ := h 0 x rfl
    obtain ⟨css, h3, h4, h5⟩ := Els.lists xs (s + 1) (fun i y hi => by
      obtain ⟨ds, h6, h7⟩ := h (i + 1) y (by simpa using hi)
      exact ⟨ds, h6, by rw [show s + 1 + i = s + (i + 1) from by omega]; exact h7⟩)
    refine ⟨cs :: css, by simp [h3], fun i y ds hi hd => ?_, ?_⟩
    · match i with
      | 0 => simp at hi hd; subst hi; subst hd; exact h1
      | i + 1 => exact h4 i y ds (by simpa using hi) (by simpa using hd)
    · intro j u hu
      rw [List.flatten_cons] at hu
      have hl := Dat.len h1
      rcases Nat.lt_or_ge j cs.length with hj | hj
      · rw [List.getElem?_append_left hj] at hu
        have := h2 j u hu
        simpa using this
      · rw [List.getElem?_append_right hj] at hu
        have := h5 _ u hu
        rw [hl] at this hj
        rw [show o + s * Dat.size α + j = o + (s + 1) * Dat.size α + (j - Dat.size α) from by rw [Nat.add_mul]; omega]
        exact this

theorem flat_len {size : Nat} : ∀ (css : List (List Value)) (_ : ∀ cs ∈ css, cs.length = size), css.flatten.length = css.length * size
  | [], _ => by simp
  | c :: css, h => by
    rw [List.flatten_cons, List.length_append, flat_len css (fun cs hcs => h cs (by simp [hcs])), h c (by simp), List.length_cons, Nat.add_mul]; omega

section
variable {P : Program} {w : World} {S : Nat → Prop} {base : Nat} {α : Type} [Dat α]

theorem own_many {e : TypeId} {v v' : Value} {w' : World} {xs ys : List α} {css dss : List (List Value)}
    (h2 : css.length = xs.length) (h3 : ∀ (i : Nat) (x : α) (cs : List Value), xs[i]? = some x → css[i]? = some cs → Dat.rd w (OwnT S base v w) x cs)
    (h2' : dss.length = ys.length) (h3' : ∀ (i : Nat) (x : α) (cs : List Value), ys[i]? = some x → dss[i]? = some cs → Dat.rd w (OwnT S base v w) x cs)
    (hown : w'.ownsRow base e (Dat.size α) v' (xs.length + ys.length) (css.flatten ++ dss.flatten))
    (hg : w.grownBy w' v.ownBlock) (hat : v'.ownBlock = v.ownBlock ∨ v'.ownBlock = some w.heap.size) : Own w' S base e v' (xs ++ ys) := by
  have hkeep : ∀ {y : α} {ds : List Value}, Dat.rd w (OwnT S base v w) y ds → Dat.rd w' (OwnT S base v' w') y ds := fun hy =>
    Dat.keep (fun p hp hlt => World.cell?_of_block (hg.block p.block hlt (fun e => hp.2.1 e.symm))) (fun b hb => ⟨hb.1, by
      rcases hat with e | e
      · rw [e]; exact hb.2.1
      · rw [e]; intro h; injection h with h; have := hb.2.2; omega, Nat.lt_of_lt_of_le hb.2.2 hg.size⟩) hy
  refine ⟨css ++ dss, by simpa using hown, by simp [h2, h2'], fun i y ds hi hd => ?_⟩
  rcases Nat.lt_or_ge i xs.length with hlt | hge
  · rw [List.getElem?_append_left hlt] at hi
    rw [List.getElem?_append_left (by omega)] at hd
    exact hkeep (h3 i y ds hi hd)
  · rw [List.getElem?_append_right hge] at hi
    rw [List.getElem?_append_right (by omega), h2] at hd
    exact hkeep (h3' _ y ds hi hd)

theorem run_append_nil_src {t ty e : TypeId} {i : TypeInfo} {size : Nat} (ht : P.underlying t = some (.slice e)) (hi : P.info? e = some i)
    {v : Value} {n : Nat} {xs : List Value} (hown : w.ownsRow base e size v n xs) (c : Nat) : (Builtin.append_ #[t, t] ty #[v, .slice none 0 c]).run P w = .ok v w := by
  rcases hown.2 with ⟨rfl, rfl⟩ | ⟨g, cap, cur, rfl, _, _, hnc, _⟩
  · simp [Builtin.append_, run_underlying ht, sizeOf, typeInfo, hi, Builtin.lenOf, Builtin.firstCells]
  · simp [Builtin.append_, run_underlying ht, sizeOf, typeInfo, hi, Builtin.lenOf, Builtin.firstCells, hnc, storeCells]
theorem run_append_none_src {t ty e : TypeId} {i : TypeInfo} {size : Nat} (ht : P.underlying t = some (.slice e)) (hi : P.info? e = some i)
    {v : Value} {n : Nat} {xs : List Value} (hown : w.ownsRow base e size v n xs) (ad : Addr) (c : Nat) : (Builtin.append_ #[t, t] ty #[v, .slice (some ad) 0 c]).run P w = .ok v w := by
  rcases hown.2 with ⟨rfl, rfl⟩ | ⟨g, cap, cur, rfl, _, _, hnc, _⟩
  · simp [Builtin.append_, run_underlying ht, sizeOf, typeInfo, hi, Builtin.lenOf, Builtin.firstCells, loadCells, loadCellsFrom]
  · simp [Builtin.append_, run_underlying ht, sizeOf, typeInfo, hi, Builtin.lenOf, Builtin.firstCells, hnc, storeCells, loadCells, loadCellsFrom]

/-- append of a whole slice that reads as ys. -/
theorem run_ownMany {t ty e : TypeId} {bytes : Nat} (hT : ElemT P α t e bytes) {v : Value} {xs ys : List α} {A : Option Addr} {c : Nat} (hown : Own w S base e v xs)
    (hys : Els w (OwnT S base v w) ys A) (hlen : (xs.length + ys.length) * bytes ≤ 140737488355328) (hmax : xs.length + ys.length ≤ 9223372036854775807) (hbase : base ≤ w.heap.size) :
    ∃ v' w', (Builtin.append_ #[t, t] ty #[v, .slice A ys.length c]).run P w = .ok v' w' ∧ Own w' S base e v' (xs ++ ys) ∧ w.grownBy w' v.ownBlock ∧ (v'.ownBlock = v.ownBlock ∨ v'.ownBlock = some w.heap.size) := by
  obtain ⟨i, z, ht, hi, hz, hsize, hby, hzs⟩ := hT
  by_cases hne : ys = []
  · subst hne
    refine ⟨v, w, ?_, by simpa using hown, ⟨rfl, rfl, rfl, Nat.le_refl _, fun _ _ _ => rfl⟩, .inl rfl⟩
    obtain ⟨css, h1, _⟩ := hown
    cases A with
    | none => exact run_append_nil_src ht hi h1 c
    | some ad => exact run_append_none_src ht hi h1 ad c
  · obtain ⟨b, o, rfl, hb, hx⟩ := hys hne
    obtain ⟨dss, h2', h3', h4'⟩ := Els.lists (o := o) ys 0 (fun i x hi => by simpa using hx i x hi)
    simp only [Nat.zero_mul, Nat.add_zero] at h4'
    obtain ⟨css, h1, h2, h3⟩ := hown
    have hdl : ∀ ds ∈ dss, ds.length = Dat.size α := by
      intro ds hds
      obtain ⟨i, hi, rfl⟩ := List.getElem_of_mem hds
      exact Dat.len (h3' i _ _ (List.getElem?_eq_getElem (by omega : i < ys.length)) (List.getElem?_eq_getElem hi))
    have hfl := flat_len dss hdl
    have hone : ∀ u ∈ dss.flatten, u.oneCell' = true := by
      intro u hu
      obtain ⟨ds, hds, hu⟩ := List.mem_flatten.1 hu
      obtain ⟨i, hi, rfl⟩ := List.getElem_of_mem hds
      exact Dat.one (h3' i _ _ (List.getElem?_eq_getElem (by omega : i < ys.length)) (List.getElem?_eq_getElem hi)) u hu
    obtain ⟨v', w', hr, ho, hg, _, h5⟩ := run_append_own_at (P := P) w base t ty e i z (Dat.size α) bytes ht hi hz hsize hby hzs Dat.pos v xs.length css.flatten h1 ⟨b, o, none⟩ ys.length c dss.flatten (by rw [hfl, h2'])
      (by
        intro j u hu
        have h := h4' j u hu
        have hadd : (⟨b, o, none⟩ : Addr).add j = ⟨b, o + j, none⟩ := by unfold Addr.add; split <;> simp_all
        rw [hadd]; exact h) hone (by simpa [maxLen] using hmax) hlen hbase
    exact ⟨v', w', hr, own_many h2 h3 h2' h3' ho hg h5, hg, h5⟩
end

section
variable {P : Program} (w : World) {S : Nat → Prop} {base : Nat} {α : Type} [Dat α]
theorem wp_ownMany {o : Oper} {a : Act} {K : Act → World → Prop} {Q : Exit → Act → World → Prop} (s xo : Operand) {t e : TypeId} {bytes : Nat} (hT : ElemT P α t e bytes)
    (ho : o.op = .call { callee := .builtin .append, args := #[s, xo], argTypes := #[t, t] })
    {v : Value} {xs : List α} (hs : a.eval s = v) (hown : Own w S base e v xs) (ys : List α) {A : Option Addr} {n c : Nat} (hx : a.eval xo = .slice A n c) (hn : n = ys.length)
    (hys : Els w (OwnT S base v w) ys A) (hlen : (xs.length + ys.length) * bytes ≤ 140737488355328) (hmax : xs.length + ys.length ≤ 9223372036854775807) (hbase : base ≤ w.heap.size)
    (h : ∀ v' w', Own w' S base e v' (xs ++ ys) → w.grownBy w' v.ownBlock → (v'.ownBlock = v.ownBlock ∨ v'.ownBlock = some w.heap.size) → K (a.put o.dst v') w') : o.wp P a w K Q := by
  subst hn
  obtain ⟨v', w', hrun, h2, h3, h4⟩ := run_ownMany (ty := o.type) (c := c) hT hown hys hlen hmax hbase
  unfold Oper.wp execOp
  simp only [ho, resolve, invoke, builtin, Sem.run_bind, Sem.run_pure, Result.andThen_ok, List.map_toArray, List.map_cons, List.map_nil, hs, hx, hrun]
  exact h v' w' h2 h3 h4
theorem wpList_ownMany {ops : Array Oper} {rest : List Oper} {o : Oper} {a : Act} {Q : Exit → Act → World → Prop} (hgd : o.guard = none) (s xo : Operand) {t e : TypeId} {bytes : Nat} (hT : ElemT P α t e bytes)
    (ho : o.op = .call { callee := .builtin .append, args := #[s, xo], argTypes := #[t, t] })
    {v : Value} {xs : List α} (hs : a.eval s = v) (hown : Own w S base e v xs) (ys : List α) {A : Option Addr} {n c : Nat} (hx : a.eval xo = .slice A n c) (hn : n = ys.length)
    (hys : Els w (OwnT S base v w) ys A) (hlen : (xs.length + ys.length) * bytes ≤ 140737488355328) (hmax : xs.length + ys.length ≤ 9223372036854775807) (hbase : base ≤ w.heap.size)
    (h : ∀ v' w', Own w' S base e v' (xs ++ ys) → w.grownBy w' v.ownBlock → (v'.ownBlock = v.ownBlock ∨ v'.ownBlock = some w.heap.size) → wpList P ops Q rest (a.put o.dst v') w') : wpList P ops Q (o :: rest) a w :=
  wpList_plain hgd fun _ hK => wp_ownMany w s xo hT ho hs hown ys hx hn hys hlen hmax hbase fun v' w' h2 h3 h4 => hK _ _ (h v' w' h2 h3 h4)
end

/-- A row of no element, with room. -/
theorem Own.made {α : Type} [Dat α] {w : World} (S : Nat → Prop) {base : Nat} {e : TypeId} {cur : Array Value} {cap : Nat} (hb : base ≤ w.heap.size) (hm : cap ≤ 9223372036854775807) (hs : cur.size = cap * Dat.size α) :
    Own (w.alloc (.cells cur e)) S base e (.slice (some ⟨w.heap.size, 0, none⟩) 0 cap) ([] : List α) :=
  ⟨[], World.ownsRow_made w cur cap hb (by simpa [maxLen] using hm) hs, rfl, fun i x cs h => by simp at h⟩

/-- append(nil, make([]T, n)...) : the run, as an equation, and what the row is when cut to no element. -/
theorem run_room {P : Program} {w : World} {α : Type} [Dat α] {t tn ty e : TypeId} {bytes : Nat} {kn k : IntKind} (hT : ElemT P α t e bytes) (htn : P.underlying tn = some (.int kn)) (n : Nat) (h0 : 0 < n) (h48 : n * bytes ≤ 281474976710656) (h63 : n ≤ 9223372036854775807) :
    ∃ w' g cap, (Builtin.append_ #[t, tn] ty #[.slice none 0 0, .int k n]).run P w = .ok (.slice (some ⟨g, 0, none⟩) n cap) w' ∧ g = w.heap.size ∧ n ≤ cap ∧ cap ≤ 9223372036854775807 ∧ (∀ S, Own w' S w.heap.size e (.slice (some ⟨g, 0, none⟩) 0 cap) ([] : List α)) ∧ Below w.heap.size w w' ∧ w'.heap.size = w.heap.size + 1 := by
  obtain ⟨i, z, ht, hi, hz, hsize, hby, hzs⟩ := hT
  have hr := Lib.run_append_nil_zeros (P := P) w t tn ty e i z k kn ht htn hi hz n h0 (by rw [hsize]; exact Dat.pos) (by omega) (by rw [hby]; exact h48)
  have hge := grownCap_ge w n 0 e
  have hcm := grownCap_le_maxLen w n 0 e (by simpa [maxLen] using h63)
  refine ⟨_, _, _, hr, rfl, hge, by simpa [maxLen] using hcm, fun S => ?_, ((Below.refl _ _).drew).alloc (Nat.le_refl _) _, by simp⟩
  exact Own.made (w := w.drew) S (Nat.le_refl _) (by simpa [maxLen] using hcm) (by simp only [Array.size_append, size_zeroCells, hzs, ← Nat.add_mul]; congr 1; omega)

/-- What append leaves of a literal row on nil: a row of the call's own. -/
theorem Own.litGrown {α : Type} [Dat α] {w : World} (S : Nat → Prop) {base : Nat} {e : TypeId} (xs : List α) (css : List (List Value)) (z : Array Value) (n : Nat) (hn : n = xs.length) (hz : z.size = Dat.size α) (hb : base ≤ w.heap.size) (hm : xs.length ≤ 9223372036854775807) (hl : css.length = xs.length)
    (hr : ∀ (i : Nat) (x : α) (cs : List Value), xs[i]? = some x → css[i]? = some cs → Dat.rd w (fun b => (S b ∨ base ≤ b) ∧ b < w.heap.size) x cs) (w0 : World) :
    Own (w.alloc (.cells (css.flatten.toArray ++ Builtin.zeroCells z ((Question.appendCap n 0 e).cut (w0.tape w0.drawn (Question.appendCap n 0 e)) - n)) e)).drew S base e (.slice (some ⟨w.heap.size, 0, none⟩) n ((Question.appendCap n 0 e).cut (w0.tape w0.drawn (Question.appendCap n 0 e)))) xs := by
  subst hn
  have hge := grownCap_ge w0 xs.length 0 e
  have hcm := grownCap_le_maxLen w0 xs.length 0 e (by simpa [maxLen] using hm)
  unfold grownCap at hge hcm
  generalize (Question.appendCap xs.length 0 e).cut (w0.tape w0.drawn (Question.appendCap xs.length 0 e)) = cap at *
  have hdl : ∀ ds ∈ css, ds.length = Dat.size α := by
    intro ds hds
    obtain ⟨i, hi, rfl⟩ := List.getElem_of_mem hds
    exact Dat.len (hr i _ _ (List.getElem?_eq_getElem (by omega : i < xs.length)) (List.getElem?_eq_getElem hi))
  have hfl := flat_len css hdl
  rw [hl] at hfl
  refine ⟨css, ⟨hfl, .inr ⟨w.heap.size, cap, _, rfl, hb, heap_alloc_new w _, hge, hcm, ?_, ?_⟩⟩, hl, fun i x cs hi hc => Dat.keep (fun p hp hlt => ?_) (fun b hb' => ⟨hb'.1, ?_, ?_⟩) (hr i x cs hi hc)⟩
  · simp only [Array.size_append, size_zeroCells, hz, List.size_toArray, hfl, ← Nat.add_mul]; congr 1; omega
  · rw [Array.toList_append, List.take_append_of_le_length (by simp [hfl])]
    exact List.take_of_length_le (by simp [hfl])
  · exact ((Below.refl _ _).alloc (Nat.le_refl _) _ : Below w.heap.size w _).cell hp.2
  · simp [Value.ownBlock]; have := hb'.2; omega
  · have := hb'.2; simp; omega

/-- A call that returns a row of its own. -/
def RetOwn {α : Type} [Dat α] (w0 : World) (S : Nat → Prop) (et : TypeId) (xs : List α) (e : Ending) (w' : World) : Prop :=
  ∃ v, e = .returned v ∧ Own w' S w0.heap.size et v xs ∧ Below w0.heap.size w0 w'
theorem flat_take_le {α : Type} (xss : List (List α)) (k : Nat) : (xss.take k).flatten.length ≤ xss.flatten.length := by
  conv => rhs; rw [← List.take_append_drop k xss]
  rw [List.flatten_append, List.length_append]; omega
theorem flat_take_snoc {α : Type} {xss : List (List α)} {k : Nat} {xs : List α} (h : xss[k]? = some xs) : (xss.take (k + 1)).flatten = (xss.take k).flatten ++ xs := by
  rw [take_snoc h, List.flatten_append]; simp
theorem Els.own {α : Type} [Dat α] {w : World} {S : Nat → Prop} {base : Nat} {e : TypeId} {β : Type} [Dat β] {v : Value} {ys : List β} {xs : List α} {A : Option Addr} (h : Els w S xs A) (hown : Own w S base e v ys) (hS : ∀ b, S b → b < base) (hb : base ≤ w.heap.size) : Els w (OwnT S base v w) xs A :=
  h.keep (fun _ _ _ => rfl) (fun b hb' => ⟨.inl hb', fun e => by have := (hown.block b e).1; have := hS b hb'; omega, by have := hS b hb'; omega⟩)
theorem own_ne {α : Type} [Dat α] {w : World} {S : Nat → Prop} {B : Nat} {e : TypeId} {v : Value} {xs : List α} (h : Own w S (B + 1) e v xs) : some B ≠ v.ownBlock := fun e => by have := (h.block B e.symm).1; omega
theorem At.new (w : World) (cs : List Value) (t : TypeId) : At (w.alloc (.cells cs.toArray t)) w.heap.size 0 cs := fun j u hu => by
  rw [Nat.zero_add, World.cell?_alloc_new]; simpa using hu
theorem snoc_len {α : Type} (l : List α) (x : α) : (l ++ [x]).length = l.length + 1 := by simp
theorem Own.base {α : Type} [Dat α] {w : World} {S : Nat → Prop} {base base' : Nat} {e : TypeId} {v : Value} {xs : List α} (h : Own w S base e v xs) (hb : base' ≤ base) : Own w S base' e v xs := by
  obtain ⟨css, h1, h2, h3⟩ := h
  refine ⟨css, ⟨h1.1, ?_⟩, h2, fun i x cs hi hc => Dat.keep (fun _ _ _ => rfl) (fun b hb' => ⟨hb'.1.imp id (fun h => Nat.le_trans hb h), hb'.2⟩) (h3 i x cs hi hc)⟩
  rcases h1.2 with h | ⟨g, cap, cur, q1, q2, q3⟩
  · exact .inl h
  · exact .inr ⟨g, cap, cur, q1, Nat.le_trans hb q2, q3⟩

/-- A block that is known whole holds a row of elements. -/
theorem els_of_blk {α : Type} [Dat α] {w : World} {S : Nat → Prop} {g : Nat} {t : TypeId} {xs : List α} {cells : Array Value} (css : List (List Value)) (hb : Blk' w g t cells) (hc : cells = css.flatten.toArray) (hl : css.length = xs.length)
    (hr : ∀ (i : Nat) (x : α) (cs : List Value), xs[i]? = some x → css[i]? = some cs → Dat.rd w S x cs) (hS : S g) : Els w S xs (some ⟨g, 0, none⟩) := by
  subst hc
  intro _
  refine ⟨g, 0, rfl, hS, fun i x hi => ?_⟩
  have hil : i < css.length := by have := (List.getElem?_eq_some_iff.1 hi).1; omega
  have hci : css[i]? = some css[i] := List.getElem?_eq_getElem hil
  refine ⟨css[i], hr i x _ hi hci, fun j u hu => ?_⟩
  have hcl : ∀ cs ∈ css, cs.length = Dat.size α := by
    intro cs hcs
    obtain ⟨k, hk, rfl⟩ := List.getElem_of_mem hcs
    exact Dat.len (hr k _ _ (List.getElem?_eq_getElem (by omega : k < xs.length)) (List.getElem?_eq_getElem hk))
  have hf := flat_get css hcl i j _ u hci hu
  rw [hb.cell]
  simpa [Nat.zero_add] using hf
theorem rd_two {α : Type} [Dat α] {w : World} {S : Nat → Prop} {x y : α} {cs ds : List Value} (h1 : Dat.rd w S x cs) (h2 : Dat.rd w S y ds) : ∀ (i : Nat) (z : α) (es : List Value), [x, y][i]? = some z → [cs, ds][i]? = some es → Dat.rd w S z es
  | 0, z, es, hi, hd => by simp at hi hd; subst hi; subst hd; exact h1
  | 1, z, es, hi, hd => by simp at hi hd; subst hi; subst hd; exact h2
  | _ + 2, z, es, hi, _ => by simp at hi
theorem rd_one {α : Type} [Dat α] {w : World} {S : Nat → Prop} {x : α} {cs : List Value} (h1 : Dat.rd w S x cs) : ∀ (i : Nat) (z : α) (es : List Value), [x][i]? = some z → [cs][i]? = some es → Dat.rd w S z es
  | 0, z, es, hi, hd => by simp at hi hd; subst hi; subst hd; exact h1
  | _ + 1, z, es, hi, _ => by simp at hi
end Go.Proofs.Ytecofoilghdedaa

/- The plain law of FirstWords: in sets that are closed under the rules, the word of a tree begins with a terminal of First of its root, and an empty word's root is in Null. No program is named here. -/
namespace Go.Proofs.Ytecofoilghdedaa
open Go.RowKit
set_option linter.unusedVariables false

/-- A row or another one. -/
def orRow : List Bool → List Bool → List Bool
  | [], _ => []
  | t :: ts, [] => t :: ts
  | t :: ts, f :: fs => (t || f) :: orRow ts fs
theorem orRow_len : ∀ (a b : List Bool), (orRow a b).length = a.length
  | [], _ => rfl
  | _ :: _, [] => rfl
  | _ :: ts, _ :: fs => by simp [orRow, orRow_len ts fs]
theorem orRow_left : ∀ (a b : List Bool) (j : Nat), a[j]? = some true → (orRow a b)[j]? = some true
  | [], _, _, h => by simp at h
  | t :: ts, [], j, h => by simpa [orRow] using h
  | t :: ts, f :: fs, 0, h => by simp at h; simp [orRow, h]
  | t :: ts, f :: fs, j + 1, h => by
    simp only [orRow, List.getElem?_cons_succ]
    exact orRow_left ts fs j (by simpa using h)
theorem orRow_right : ∀ (a b : List Bool) (j : Nat), a.length = b.length → b[j]? = some true → (orRow a b)[j]? = some true
  | [], [], _, _, h => by simp at h
  | [], _ :: _, _, hl, h => by simp at hl
  | t :: ts, [], j, hl, h => by simp at hl
  | t :: ts, f :: fs, 0, hl, h => by simp at h; simp [orRow, h]
  | t :: ts, f :: fs, j + 1, hl, h => by
    simp only [orRow, List.getElem?_cons_succ]
    exact orRow_right ts fs j (by simpa using hl) (by simpa using h)

/-- What first.Sets.Of computes, from a row on. -/
def ofFrom (e : List Bool) (f : List (List Bool)) : List Bool → List Sym → List Bool × Bool
  | out, [] => (out, true)
  | out, x :: xs => if x.term then (out.set x.n.toNat true, false) else if e.getD x.n.toNat false then ofFrom e f (orRow out (f.getD x.n.toNat [])) xs else (orRow out (f.getD x.n.toNat []), false)
theorem ofFrom_len (e : List Bool) (f : List (List Bool)) : ∀ (l : List Sym) (out : List Bool), (ofFrom e f out l).1.length = out.length
  | [], out => rfl
  | x :: xs, out => by
    unfold ofFrom
    split
    · simp
    · split
      · rw [ofFrom_len e f xs, orRow_len]
      · rw [orRow_len]
theorem ofFrom_mono (e : List Bool) (f : List (List Bool)) : ∀ (l : List Sym) (out : List Bool) (j : Nat), out[j]? = some true → (ofFrom e f out l).1[j]? = some true
  | [], out, j, h => h
  | x :: xs, out, j, h => by
    unfold ofFrom
    split
    · have hj := (List.getElem?_eq_some_iff.1 h).1
      simp only [List.getElem?_set]
      split
      · simp [hj]; omega
      · exact h
    · split
      · exact ofFrom_mono e f xs _ j (orRow_left _ _ _ h)
      · exact orRow_left _ _ _ h

mutual
/-- A tree of the grammar with a symbol at its root. -/
def vt (g : Gram) : Tree → Sym → Prop
  | ⟨r, t, ks⟩, s => if s.term then r = -1 ∧ t = s.n ∧ ks = [] else t = 0 ∧ 0 ≤ r ∧ ∃ q : Rule, g.rules[r.toNat]? = some q ∧ q.left = s.n ∧ vts g ks q.right
def vts (g : Gram) : List Tree → List Sym → Prop
  | [], [] => True
  | k :: ks, s :: ss => vt g k s ∧ vts g ks ss
  | [], _ :: _ => False
  | _ :: _, [] => False
end
mutual
/-- The word of a tree. -/
def yieldT : Tree → List Int
  | ⟨r, t, ks⟩ => if r < 0 then [t] else yields ks
def yields : List Tree → List Int
  | [] => []
  | k :: ks => yieldT k ++ yields ks
end

def InF (m : Nat) (f : List (List Bool)) (n : Nat) (c : Int) : Prop := 0 ≤ c ∧ c < (m : Int) ∧ (f.getD n [])[c.toNat]? = some true
/-- The sets are closed under the rules. -/
structure ClosedS (g : Gram) (m : Nat) (e : List Bool) (f : List (List Bool)) : Prop where
  rows : ∀ n : Nat, n < g.nons.toNat → (f.getD n []).length = m
  first : ∀ q ∈ g.rules, ∀ j : Nat, (ofFrom e f (List.replicate m false) q.right).1[j]? = some true → (f.getD q.left.toNat [])[j]? = some true
  null : ∀ q ∈ g.rules, (ofFrom e f (List.replicate m false) q.right).2 = true → e.getD q.left.toNat false = true
def SymIn (m : Nat) (g : Gram) (s : Sym) : Prop := 0 ≤ s.n ∧ if s.term then s.n < (m : Int) else s.n < g.nons

mutual
theorem first_tree {g : Gram} {m : Nat} {e : List Bool} {f : List (List Bool)} (hc : ClosedS g m e f) (hok : ∀ q ∈ g.rules, ∀ s ∈ q.right, SymIn m g s) :
    ∀ (t : Tree) (s : Sym), vt g t s → s.term = false → (yieldT t = [] → e.getD s.n.toNat false = true) ∧ ∀ c w, yieldT t = c :: w → InF m f s.n.toNat c
  | ⟨r, t, ks⟩, s, h, hs => by
    unfold vt at h
    rw [if_neg (by simp [hs])] at h
    obtain ⟨_, hr, q, hq, hql, hks⟩ := h
    have hm := List.mem_of_getElem? hq
    have hy : yieldT ⟨r, t, ks⟩ = yields ks := by unfold yieldT; rw [if_neg (by omega)]
    have ih := first_kids hc hok ks q.right (List.replicate m false) (by simp) (hok q hm) hks
    rw [hy, ← hql]
    exact ⟨fun h0 => hc.null q hm (ih.1 h0), fun c w hw => by
      obtain ⟨h1, h2, h3⟩ := ih.2 c w hw
      exact ⟨h1, h2, hc.first q hm _ h3⟩⟩
theorem first_kids {g : Gram} {m : Nat} {e : List Bool} {f : List (List Bool)} (hc : ClosedS g m e f) (hok : ∀ q ∈ g.rules, ∀ s ∈ q.right, SymIn m g s) :
    ∀ (ks : List Tree) (ss : List Sym) (out : List Bool), out.length = m → (∀ s ∈ ss, SymIn m g s) → vts g ks ss → (yields ks = [] → (ofFrom e f out ss).2 = true) ∧ ∀ c w, yields ks = c :: w → 0 ≤ c ∧ c < (m : Int) ∧ (ofFrom e f out ss).1[c.toNat]? = some true
  | [], [], out, _, _, _ => ⟨fun _ => rfl, fun c w h => by simp [yields] at h⟩
  | [], _ :: _, out, _, _, h => by unfold vts at h; exact h.elim
  | _ :: _, [], out, _, _, h => by unfold vts at h; exact h.elim
  | k :: ks, s :: ss, out, hl, hin, h => by
    unfold vts at h
    have hs := hin s (by simp)
    obtain ⟨hs0, hs1⟩ := hs
    cases hterm : s.term
    · rw [hterm] at hs1
      simp at hs1
      have hrow := hc.rows s.n.toNat (by omega)
      have iht := first_tree hc hok k s h.1 hterm
      have ihk := first_kids hc hok ks ss (orRow out (f.getD s.n.toNat [])) (by rw [orRow_len]; exact hl) (fun x hx => hin x (by simp [hx])) h.2
      have hof : ofFrom e f out (s :: ss) = if e.getD s.n.toNat false then ofFrom e f (orRow out (f.getD s.n.toNat [])) ss else (orRow out (f.getD s.n.toNat []), false) := by
        rw [ofFrom, hterm]; simp
      rw [hof]
      show (yieldT k ++ yields ks = [] → _) ∧ ∀ c w, yieldT k ++ yields ks = c :: w → _
      refine ⟨fun h0 => ?_, fun c w hw => ?_⟩
      · obtain ⟨h1, h2⟩ := List.append_eq_nil_iff.1 h0
        rw [if_pos (iht.1 h1)]
        exact ihk.1 h2
      · cases hyk : yieldT k with
        | nil =>
          rw [hyk] at hw
          rw [if_pos (iht.1 hyk)]
          exact ihk.2 c w hw
        | cons c' w' =>
          rw [hyk] at hw
          simp at hw
          obtain ⟨rfl, _⟩ := hw
          obtain ⟨h1, h2, h3⟩ := iht.2 _ _ hyk
          have h4 := orRow_right out (f.getD s.n.toNat []) c'.toNat (by rw [hl, hrow]) h3
          refine ⟨h1, h2, ?_⟩
          split
          · exact ofFrom_mono e f ss _ _ h4
          · exact h4
    · rw [hterm] at hs1
      simp at hs1
      have hk := h.1
      cases k with
      | mk r t kk =>
        unfold vt at hk
        rw [if_pos hterm] at hk
        obtain ⟨rfl, rfl, rfl⟩ := hk
        have hy : yields (⟨-1, s.n, []⟩ :: ks) = s.n :: yields ks := by simp [yields, yieldT]
        rw [hy]
        refine ⟨fun h0 => by simp at h0, fun c w hw => ?_⟩
        simp at hw
        obtain ⟨rfl, _⟩ := hw
        refine ⟨hs0, hs1, ?_⟩
        rw [ofFrom, if_pos hterm]
        simp only [List.getElem?_set]
        rw [if_pos trivial, if_pos (by omega)]
end
theorem orRow_or : ∀ (a b : List Bool) (j : Nat), (orRow a b)[j]? = some true → a[j]? = some true ∨ b[j]? = some true
  | [], _, _, h => by simp [orRow] at h
  | t :: ts, [], j, h => .inl (by simpa [orRow] using h)
  | t :: ts, u :: us, 0, h => by simp [orRow] at h; rcases h with h | h <;> simp [h]
  | t :: ts, u :: us, j + 1, h => by simpa using orRow_or ts us j (by simpa [orRow] using h)
end Go.Proofs.Ytecofoilghdedaa

/- Rows of bools that are known whole. No program is named here. -/
namespace Go.Proofs.Ytecofoilghdedaa
open Go.RowKit
set_option linter.unusedVariables false

def bcells (l : List Bool) : Array Value := (l.map Value.bool).toArray
theorem bcells_get {l : List Bool} {i : Nat} {x : Bool} (h : l[i]? = some x) : (bcells l)[i]? = some (.bool x) := by simp [bcells, h]
theorem bcells_set (l : List Bool) (i : Nat) (x : Bool) : (bcells l).setIfInBounds i (.bool x) = bcells (l.set i x) := by
  simp [bcells, List.map_set]
theorem orRow_take : ∀ (a b : List Bool) (k : Nat) (x y : Bool), a[k]? = some x → b[k]? = some y → orRow a (b.take (k + 1)) = (orRow a (b.take k)).set k (x || y)
  | [], _, _, _, _, h, _ => by simp at h
  | _ :: _, [], _, _, _, _, h => by simp at h
  | t :: ts, f :: fs, 0, x, y, h1, h2 => by
    simp at h1 h2
    subst h1; subst h2
    cases ts <;> simp [orRow]
  | t :: ts, f :: fs, k + 1, x, y, h1, h2 => by
    have ih := orRow_take ts fs k x y (by simpa using h1) (by simpa using h2)
    simp only [List.take_succ_cons, orRow, List.set_cons_succ]
    rw [ih]
theorem orRow_nil : ∀ (a : List Bool), orRow a [] = a
  | [] => rfl
  | _ :: _ => rfl
theorem orRow_get : ∀ (a b : List Bool) (k j : Nat) (x : Bool), a[j]? = some x → k ≤ j → (orRow a (b.take k))[j]? = some x
  | [], _, _, _, _, h, _ => by simp at h
  | t :: ts, [], k, j, x, h, _ => by simpa [orRow] using h
  | t :: ts, f :: fs, 0, j, x, h, _ => by simpa [orRow] using h
  | t :: ts, f :: fs, k + 1, 0, x, h, hk => by omega
  | t :: ts, f :: fs, k + 1, j + 1, x, h, hk => by
    simp only [List.take_succ_cons, orRow, List.getElem?_cons_succ]
    exact orRow_get ts fs k j x (by simpa using h) (by omega)
theorem set_same {α : Type} {l : List α} {k : Nat} {x : α} (h : l[k]? = some x) : l.set k x = l := by
  apply List.ext_getElem?
  intro j
  rw [List.getElem?_set]
  by_cases e : k = j
  · subst e; simp [h]; exact (List.getElem?_eq_some_iff.1 h).1
  · simp [e]

theorem bcells_size (l : List Bool) : (bcells l).size = l.length := by simp [bcells]
theorem slack_get {a z : Array Value} {k : Nat} (h : k < a.size) : (a ++ z)[k]? = a[k]? := by
  rw [Array.getElem?_append]; simp [h]
theorem slack_set {a z : Array Value} {k : Nat} {v : Value} (h : k < a.size) : (a ++ z).setIfInBounds k v = a.setIfInBounds k v ++ z := by
  apply Array.ext'
  simp only [Array.toList_setIfInBounds, Array.toList_append]
  rw [List.set_append_left _ _ (by simpa using h)]
end Go.Proofs.Ytecofoilghdedaa

/- The element types of slices, off the program's tables. -/
namespace Go.Proofs.Ytecofoilghdedaa
open Go.RowKit
theorem infoInt : (Try.prog.info? 3).map (fun i => (i.zero, i.size, i.bytes)) = some (some (.int .i64 0), 1, 8) := by kernel_rfl
theorem elemInt : ElemT Try.prog Int 22 3 8 := by obtain ⟨i, h1, h2, h3, h4⟩ := info_parts infoInt; exact ⟨i, _, Try.underlying22, h1, h2, h3, h4, rfl⟩
theorem infoBool : (Try.prog.info? 4).map (fun i => (i.zero, i.size, i.bytes)) = some (some (.bool false), 1, 1) := by kernel_rfl
theorem elemBool : ElemT Try.prog Bool 70 4 1 := by obtain ⟨i, h1, h2, h3, h4⟩ := info_parts infoBool; exact ⟨i, _, Try.underlying70, h1, h2, h3, h4, rfl⟩
theorem infoSym : (Try.prog.info? 63).map (fun i => (i.zero, i.size, i.bytes)) = some (some (.agg #[.bool false, .int .i64 0]), 2, 16) := by kernel_rfl
theorem elemSym : ElemT Try.prog Sym 59 63 16 := by obtain ⟨i, h1, h2, h3, h4⟩ := info_parts infoSym; exact ⟨i, _, Try.underlying59, h1, h2, h3, h4, rfl⟩
theorem infoRule : (Try.prog.info? 61).map (fun i => (i.zero, i.size, i.bytes)) = some (some (.agg #[.int .i64 0, .slice none 0 0]), 2, 32) := by kernel_rfl
theorem elemRule : ElemT Try.prog Rule 23 61 32 := by obtain ⟨i, h1, h2, h3, h4⟩ := info_parts infoRule; exact ⟨i, _, Try.underlying23, h1, h2, h3, h4, rfl⟩
theorem infoTree : (Try.prog.info? 47).map (fun i => (i.zero, i.size, i.bytes)) = some (some (.agg #[.int .i64 0, .int .i64 0, .slice none 0 0]), 3, 40) := by kernel_rfl
theorem elemTree : ElemT Try.prog Tree 45 47 40 := by obtain ⟨i, h1, h2, h3, h4⟩ := info_parts infoTree; exact ⟨i, _, Try.underlying45, h1, h2, h3, h4, rfl⟩
theorem infoInts : (Try.prog.info? 22).map (fun i => (i.zero, i.size, i.bytes)) = some (some (.slice none 0 0), 1, 24) := by kernel_rfl
theorem elemInts : ElemT Try.prog (List Int) 68 22 24 := by obtain ⟨i, h1, h2, h3, h4⟩ := info_parts infoInts; exact ⟨i, _, Try.underlying68, h1, h2, h3, h4, rfl⟩
theorem infoBools : (Try.prog.info? 70).map (fun i => (i.zero, i.size, i.bytes)) = some (some (.slice none 0 0), 1, 24) := by kernel_rfl
theorem elemBools : ElemT Try.prog (List Bool) 71 70 24 := by obtain ⟨i, h1, h2, h3, h4⟩ := info_parts infoBools; exact ⟨i, _, Try.underlying71, h1, h2, h3, h4, rfl⟩
end Go.Proofs.Ytecofoilghdedaa

/- A world that has kept all its blocks but those of a set. No program is named here. -/
namespace Go.Proofs.Ytecofoilghdedaa
open Go.RowKit
set_option linter.unusedVariables false

/-- w' is w with new blocks, and with writes to blocks of X alone. -/
structure Kept (X : Nat → Prop) (w w' : World) : Prop where
  os : w'.os = w.os
  tape : w'.tape = w.tape
  output : w'.output = w.output
  size : w.heap.size ≤ w'.heap.size
  block : ∀ k, k < w.heap.size → ¬ X k → w'.heap[k]? = w.heap[k]?
section
variable {X Y : Nat → Prop} {w w' w'' : World}
theorem Kept.refl (X : Nat → Prop) (w : World) : Kept X w w := ⟨rfl, rfl, rfl, Nat.le_refl _, fun _ _ _ => rfl⟩
theorem Kept.trans (h : Kept X w w') (k : Kept X w' w'') : Kept X w w'' :=
  ⟨k.os.trans h.os, k.tape.trans h.tape, k.output.trans h.output, Nat.le_trans h.size k.size, fun i hi hx => (k.block i (Nat.lt_of_lt_of_le hi h.size) hx).trans (h.block i hi hx)⟩
theorem Kept.mono (h : Kept X w w') (hx : ∀ b, b < w.heap.size → X b → Y b) : Kept Y w w' := ⟨h.os, h.tape, h.output, h.size, fun k hk hy => h.block k hk (fun hb => hy (hx k hk hb))⟩
theorem Kept.of_below (X : Nat → Prop) (h : Below w.heap.size w w') : Kept X w w' := ⟨h.os, h.tape, h.output, h.size, fun k hk _ => h.block k hk⟩
theorem Kept.of_grown {row : Option Nat} (h : w.grownBy w' row) (hX : ∀ k, row = some k → X k) : Kept X w w' := ⟨h.os, h.tape, h.output, h.size, fun k hk hx => h.block k hk (fun e => hx (hX k e.symm))⟩
theorem Kept.alloc (h : Kept X w w') (o : Obj) : Kept X w (w'.alloc o) := h.trans (Kept.of_below X ((Below.refl _ _).alloc (Nat.le_refl _) o))
theorem Kept.drew (h : Kept X w w') : Kept X w w'.drew := ⟨h.os, h.tape, h.output, h.size, h.block⟩
theorem Kept.below (h : Kept X w w') (k : Below w'.heap.size w' w'') : Kept X w w'' := h.trans (Kept.of_below X k)
theorem Kept.grown {row : Option Nat} (h : Kept X w w') (k : w'.grownBy w'' row) (hX : ∀ k, row = some k → X k ∨ w.heap.size ≤ k) : Kept X w w'' :=
  ⟨k.os.trans h.os, k.tape.trans h.tape, k.output.trans h.output, Nat.le_trans h.size k.size, fun i hi hx => (k.block i (Nat.lt_of_lt_of_le hi h.size) (fun e => by
    rcases hX i e.symm with q | q
    · exact hx q
    · omega)).trans (h.block i hi hx)⟩
theorem Kept.setCell (h : Kept X w w') {p : Addr} (hp : X p.block ∨ w.heap.size ≤ p.block) (u : Value) : Kept X w (w'.setCell p u) :=
  ⟨h.os, h.tape, h.output, by simpa [World.setCell] using h.size, fun i hi hx => (Below.heap_setCell _ _ _ _ (by
    rintro rfl
    rcases hp with q | q
    · exact hx q
    · omega)).trans (h.block i hi hx)⟩
theorem Kept.to_below {B : Nat} (h : Kept X w w') (hX : ∀ b, X b → B ≤ b) (hB : B ≤ w.heap.size) : Below B w w' :=
  ⟨h.os, h.tape, h.output, h.size, fun k hk => h.block k (by omega) (fun hx => by have := hX k hx; omega)⟩
theorem Kept.later (h : Kept X w w') (k : Kept Y w' w'') (hY : ∀ b, Y b → X b ∨ w.heap.size ≤ b) : Kept X w w'' :=
  ⟨k.os.trans h.os, k.tape.trans h.tape, k.output.trans h.output, Nat.le_trans h.size k.size, fun i hi hx => (k.block i (Nat.lt_of_lt_of_le hi h.size) (fun hy => by
    rcases hY i hy with q | q
    · exact hx q
    · omega)).trans (h.block i hi hx)⟩
theorem Kept.undrew {w : World} (h : Kept X w.drew w') : Kept X w w' := ⟨h.os, h.tape, h.output, h.size, h.block⟩
theorem Kept.cell {p : Addr} (h : Kept X w w') (hp : p.block < w.heap.size) (hx : ¬ X p.block) : w'.cell? p = w.cell? p := World.cell?_of_block (h.block p.block hp hx)
theorem Blk'.kept {g : Nat} {t : TypeId} {cs : Array Value} (h : Blk' w g t cs) (k : Kept X w w') (hx : ¬ X g) : Blk' w' g t cs := (k.block g h.lt hx).trans h
theorem Els.kept {α : Type} [Dat α] {S : Nat → Prop} {xs : List α} {A : Option Addr} (h : Els w S xs A) (k : Kept X w w') (hx : ∀ b, S b → ¬ X b) : Els w' S xs A :=
  h.keep (fun p hs hp => k.cell hp (hx _ hs)) (fun _ h => h)
theorem Vl.kept {α : Type} [Dat α] {S : Nat → Prop} {x : α} {v : Value} (h : Vl w S x v) (k : Kept X w w') (hx : ∀ b, S b → ¬ X b) : Vl w' S x v :=
  h.keep (fun p hs hp => k.cell hp (hx _ hs)) (fun _ h => h)
theorem Own.kept {α : Type} [Dat α] {S : Nat → Prop} {base : Nat} {e : TypeId} {v : Value} {xs : List α} (h : Own w S base e v xs) (k : Kept X w w') (hx : ∀ b, X b → ¬ (S b ∨ base ≤ b)) : Own w' S base e v xs := by
  obtain ⟨css, h1, h2, h3⟩ := h
  have hg : ∀ g, v.ownBlock = some g → w'.heap[g]? = w.heap[g]? := fun g hg => k.block g (h1.lt g hg).2 (fun hX => hx g hX (.inr (h1.lt g hg).1))
  refine ⟨css, ?_, h2, fun i x cs hi hc => Dat.keep (fun p hp hlt => k.cell hlt (fun hX => hx _ hX hp.1)) (fun b hb => ⟨hb.1, hb.2.1, Nat.lt_of_lt_of_le hb.2.2 k.size⟩) (h3 i x cs hi hc)⟩
  refine ⟨h1.1, ?_⟩
  rcases h1.2 with q | ⟨g, cap, cur, q1, q2, q3, q4⟩
  · exact .inl q
  · exact .inr ⟨g, cap, cur, q1, q2, (hg g (by rw [q1]; rfl)).trans q3, q4⟩
end
end Go.Proofs.Ytecofoilghdedaa

/- Rows of bools that the call itself makes: the ground of their memory. -/
namespace Go.Proofs.Ytecofoilghdedaa
open Go.RowKit
set_option linter.unusedVariables false

def rowSl (b m : Nat) : Value := .slice (some ⟨b, 0, none⟩) m m
theorem infoBool1 : (Try.prog.info? 4).map (fun i => (i.zero, i.size, i.bytes)) = some (some (.bool false), 1, 1) := by kernel_rfl
theorem make_eq (n : Nat) (hn : n ≤ 1000000) (W : World) : (Instr.makeSlice 70 (.int .i64 (n : Int)) (.int .i64 (n : Int))).run Try.prog W = .ok (.slice (some ⟨W.heap.size, 0, none⟩) n n) (W.alloc (.cells (bcells (List.replicate n false)) 4)) := by
  obtain ⟨i0, hi, hz0, hz1, hz2⟩ := info_parts infoBool1
  have h := run_makeSlice (P := Try.prog) W 70 4 i0 (.bool false) Try.underlying70 hi hz0 .i64 .i64 (n : Int) (n : Int) (by omega) (Int.le_refl _) (by rw [hz1]; simp; omega) (by rw [hz2]; omega) (by omega)
  rw [h, hz1]
  simp only [Int.toNat_natCast]
  have e : madeCells (Value.bool false).cells (n * 1) = bcells (List.replicate n false) := by
    apply Array.ext'
    show (madeCells #[Value.bool false] (n * 1)).toList = _
    rw [toList_madeCells_one]
    simp [bcells]
  rw [e]

theorem step_row1 {P : Program} {w : World} {ops : Array Oper} {o : Oper} {a : Act} {K : Act → World → Prop} {Q : Exit → Act → World → Prop} {E : Prop} {base : Nat} {α : Type} [Dat α] (hgd : o.guard = none) (s xo : Operand) {t e : TypeId} {bytes : Nat} (hT : ElemT P α t e bytes) (hsz : Dat.size α = 1)
    (ho : o.op = .call { callee := .builtin .append, args := #[s, xo], argTypes := #[t, t] })
    {v : Value} {n : Nat} {xs : List Value} (hs : a.eval s = v) (hown : w.ownsRow base e 1 v n xs) {u : Value} {g c : Nat} (hx : a.eval xo = .slice (some ⟨g, 0, none⟩) 1 c) (hat : w.cell? ⟨g, 0, none⟩ = some u) (hu : u.oneCell' = true)
    (hlen : (n + 1) * bytes ≤ 140737488355328) (hmax : n + 1 ≤ 9223372036854775807) (hbase : base ≤ w.heap.size)
    (h : ∀ v' w', w'.ownsRow base e 1 v' (n + 1) (xs ++ [u]) → w.grownBy w' v.ownBlock → (v'.ownBlock = v.ownBlock ∨ v'.ownBlock = some w.heap.size) → K (a.put o.dst v') w') :
    if Region.wanted o (yielded ops a.tmps) = true then Oper.wp P o a w K Q else E := by
  have hw : Region.wanted o (yielded ops a.tmps) = true := by simp [Region.wanted, hgd]
  rw [if_pos hw]
  obtain ⟨i, z, ht, hi, hz, hsize, hby, hzs⟩ := hT
  rw [hsz] at hsize hzs
  obtain ⟨v', w', hrun, h2, h3, _, h4⟩ := run_append_own_at (P := P) w base t o.type e i z 1 bytes ht hi hz hsize hby hzs (by decide) v n xs hown ⟨g, 0, none⟩ 1 c [u] rfl
    (by intro j u' hj; match j with
        | 0 => simp at hj; subst hj; simpa [Addr.add] using hat
        | j + 1 => simp at hj) (by intro u' hu'; simp at hu'; subst hu'; exact hu) (by simpa [maxLen] using hmax) hlen hbase
  unfold Oper.wp execOp
  simp only [ho, resolve, invoke, builtin, Sem.run_bind, Sem.run_pure, Result.andThen_ok, List.map_toArray, List.map_cons, List.map_nil, hs, hx, hrun]
  exact h v' w' h2 h3 h4

theorem row_below {w w' : World} {base : Nat} {e : TypeId} {size : Nat} {v : Value} {n : Nat} {xs : List Value} (h : w.ownsRow base e size v n xs) (hb : Below w.heap.size w w') : w'.ownsRow base e size v n xs := by
  refine h.kept (row := none) ⟨hb.os, hb.tape, hb.output, hb.size, fun k hk _ => hb.block k hk⟩ ?_
  cases hv : v.ownBlock <;> simp
theorem row_kept {X : Nat → Prop} {w w' : World} {base : Nat} {e : TypeId} {size : Nat} {v : Value} {n : Nat} {xs : List Value} (h : w.ownsRow base e size v n xs) (k : Kept X w w') (hx : ∀ b, v.ownBlock = some b → ¬ X b) : w'.ownsRow base e size v n xs := by
  refine ⟨h.1, ?_⟩
  rcases h.2 with q | ⟨g, cap, cur, q1, q2, q3, q4⟩
  · exact .inl q
  · have hg : v.ownBlock = some g := by rw [q1]; rfl
    exact .inr ⟨g, cap, cur, q1, q2, (k.block g (h.lt g hg).2 (hx g hg)).trans q3, q4⟩
theorem row_form {w : World} {base : Nat} {e : TypeId} {size : Nat} {v : Value} {n : Nat} {xs : List Value} (h : w.ownsRow base e size v n xs) : ∃ A c, v = .slice A n c := by
  rcases h.2 with ⟨q, rfl⟩ | ⟨g, cap, cur, q1, _⟩
  · exact ⟨_, _, q⟩
  · exact ⟨_, _, q1⟩
end Go.Proofs.Ytecofoilghdedaa

/- A slice of rows of bools that the call itself has made: its memory; rows made one by one. -/
namespace Go.Proofs.Ytecofoilghdedaa
open Go.RowKit
set_option linter.unusedVariables false

structure RowsM (w : World) (bf : Nat) (bs : List Nat) (m n cf : Nat) (f : List (List Bool)) : Prop where
  flen : f.length = n
  blen : bs.length = n
  outer : ∀ (i b : Nat), bs[i]? = some b → w.cell? ⟨bf, i, none⟩ = some (rowSl b m)
  rows : ∀ (i b : Nat) (row : List Bool), bs[i]? = some b → f[i]? = some row → Blk' w b 4 (bcells row) ∧ row.length = m
  nodup : (bf :: bs).Nodup
  bflt : bf < w.heap.size
  cap : n ≤ cf ∧ cf ≤ 9223372036854775807
section
variable {w w' : World} {bf m n cf : Nat} {bs : List Nat} {f : List (List Bool)}
theorem RowsM.kept {X : Nat → Prop} (h : RowsM w bf bs m n cf f) (k : Kept X w w') (hx : ∀ b ∈ bf :: bs, ¬ X b) : RowsM w' bf bs m n cf f :=
  ⟨h.flen, h.blen, fun i b hb => (k.cell (p := ⟨bf, i, none⟩) h.bflt (hx _ (by simp))).trans (h.outer i b hb),
    fun i b row hb hr => ⟨(h.rows i b row hb hr).1.kept k (hx _ (by simp [List.mem_of_getElem? hb])), (h.rows i b row hb hr).2⟩, h.nodup, Nat.lt_of_lt_of_le h.bflt k.size, h.cap⟩
theorem RowsM.below (h : RowsM w bf bs m n cf f) (k : Below w.heap.size w w') : RowsM w' bf bs m n cf f :=
  h.kept (Kept.of_below (fun _ => False) k) (fun _ _ h => h)
theorem RowsM.lt (h : RowsM w bf bs m n cf f) : ∀ b ∈ bf :: bs, b < w.heap.size := by
  intro b hb
  rcases List.mem_cons.1 hb with rfl | hb
  · exact h.bflt
  obtain ⟨i, hi, rfl⟩ := List.getElem_of_mem hb
  have h1 : i < f.length := by have := h.blen; have := h.flen; omega
  exact (h.rows i _ _ (List.getElem?_eq_getElem hi) (List.getElem?_eq_getElem h1)).1.lt
theorem RowsM.setRow (h : RowsM w bf bs m n cf f) {i bi : Nat} {row' : List Bool} (hi : bs[i]? = some bi) (k : Kept (fun b => b = bi) w w') (hb : Blk' w' bi 4 (bcells row')) (hl : row'.length = m) : RowsM w' bf bs m n cf (f.set i row') := by
  have hm := List.mem_of_getElem? hi
  have hnd := h.nodup
  simp only [List.nodup_cons] at hnd
  obtain ⟨n6, n7⟩ := hnd
  refine ⟨by simp [h.flen], h.blen, fun j b hb' => (k.cell (p := ⟨bf, j, none⟩) h.bflt (fun e => n6 (by have e' : bf = bi := e; exact e' ▸ hm))).trans (h.outer j b hb'), fun j b row hjb hjr => ?_, h.nodup, Nat.lt_of_lt_of_le h.bflt k.size, h.cap⟩
  rw [List.getElem?_set] at hjr
  split at hjr
  · rename_i e
    subst e
    split at hjr
    · injection hjr with hjr
      subst hjr
      rw [hi] at hjb
      injection hjb with hjb
      subst hjb
      exact ⟨hb, hl⟩
    · cases hjr
  · rename_i e
    have hr := h.rows j b row hjb hjr
    refine ⟨hr.1.kept k (fun e' => ?_), hr.2⟩
    subst e'
    obtain ⟨q1, q2⟩ := List.getElem?_eq_some_iff.1 hi
    obtain ⟨q3, q4⟩ := List.getElem?_eq_some_iff.1 hjb
    exact e ((List.getElem_inj n7).1 (q2.trans q4.symm))
end

theorem wp_row1 {P : Program} {w : World} {o : Oper} {a : Act} {K : Act → World → Prop} {Q : Exit → Act → World → Prop} {base : Nat} {α : Type} [Dat α] (s xo : Operand) {t e : TypeId} {bytes : Nat} (hT : ElemT P α t e bytes) (hsz : Dat.size α = 1)
    (ho : o.op = .call { callee := .builtin .append, args := #[s, xo], argTypes := #[t, t] })
    {v : Value} {n : Nat} {xs : List Value} (hs : a.eval s = v) (hown : w.ownsRow base e 1 v n xs) {u : Value} {g c : Nat} (hx : a.eval xo = .slice (some ⟨g, 0, none⟩) 1 c) (hat : w.cell? ⟨g, 0, none⟩ = some u) (hu : u.oneCell' = true)
    (hlen : (n + 1) * bytes ≤ 140737488355328) (hmax : n + 1 ≤ 9223372036854775807) (hbase : base ≤ w.heap.size)
    (h : ∀ v' w', w'.ownsRow base e 1 v' (n + 1) (xs ++ [u]) → w.grownBy w' v.ownBlock → (v'.ownBlock = v.ownBlock ∨ v'.ownBlock = some w.heap.size) → K (a.put o.dst v') w') : o.wp P a w K Q := by
  obtain ⟨i, z, ht, hi, hz, hsize, hby, hzs⟩ := hT
  rw [hsz] at hsize hzs
  obtain ⟨v', w', hrun, h2, h3, _, h4⟩ := run_append_own_at (P := P) w base t o.type e i z 1 bytes ht hi hz hsize hby hzs (by decide) v n xs hown ⟨g, 0, none⟩ 1 c [u] rfl
    (by intro j u' hj; match j with
        | 0 => simp at hj; subst hj; simpa [Addr.add] using hat
        | j + 1 => simp at hj) (by intro u' hu'; simp at hu'; subst hu'; exact hu) (by simpa [maxLen] using hmax) hlen hbase
  unfold Oper.wp execOp
  simp only [ho, resolve, invoke, builtin, Sem.run_bind, Sem.run_pure, Result.andThen_ok, List.map_toArray, List.map_cons, List.map_nil, hs, hx, hrun]
  exact h v' w' h2 h3 h4
theorem wpList_row1 {P : Program} {w : World} {ops : Array Oper} {rest : List Oper} {o : Oper} {a : Act} {Q : Exit → Act → World → Prop} {base : Nat} {α : Type} [Dat α] (hgd : o.guard = none) (s xo : Operand) {t e : TypeId} {bytes : Nat} (hT : ElemT P α t e bytes) (hsz : Dat.size α = 1)
    (ho : o.op = .call { callee := .builtin .append, args := #[s, xo], argTypes := #[t, t] })
    {v : Value} {n : Nat} {xs : List Value} (hs : a.eval s = v) (hown : w.ownsRow base e 1 v n xs) {u : Value} {g c : Nat} (hx : a.eval xo = .slice (some ⟨g, 0, none⟩) 1 c) (hat : w.cell? ⟨g, 0, none⟩ = some u) (hu : u.oneCell' = true)
    (hlen : (n + 1) * bytes ≤ 140737488355328) (hmax : n + 1 ≤ 9223372036854775807) (hbase : base ≤ w.heap.size)
    (h : ∀ v' w', w'.ownsRow base e 1 v' (n + 1) (xs ++ [u]) → w.grownBy w' v.ownBlock → (v'.ownBlock = v.ownBlock ∨ v'.ownBlock = some w.heap.size) → wpList P ops Q rest (a.put o.dst v') w') : wpList P ops Q (o :: rest) a w :=
  wpList_plain hgd fun _ hK => wp_row1 s xo hT hsz ho hs hown hx hat hu hlen hmax hbase fun v' w' h2 h3 h4 => hK _ _ (h v' w' h2 h3 h4)

/-- k rows of a table are made. -/
def RowL (W : World) (rows : List (List Bool)) (m : Nat) (v : Value) (k : Nat) (bs : List Nat) (wr : World) : Prop :=
  k ≤ rows.length ∧ bs.length = k ∧ Below W.heap.size W wr ∧ wr.ownsRow W.heap.size 70 1 v k (bs.map fun b => rowSl b m) ∧
    (∀ (i b : Nat) (row : List Bool), bs[i]? = some b → rows[i]? = some row → Blk' wr b 4 (bcells row) ∧ row.length = m) ∧ (∀ b ∈ bs, b < wr.heap.size ∧ W.heap.size ≤ b ∧ v.ownBlock ≠ some b) ∧ bs.Nodup
theorem RowL.start (W : World) (rows : List (List Bool)) (m : Nat) : RowL W rows m (.slice none 0 0) 0 [] W :=
  ⟨Nat.zero_le _, rfl, Below.refl _ _, World.ownsRow_nil _ _ _ _, by simp, by simp, List.nodup_nil⟩
/-- One more row: R its block, of wm; then the append. -/
theorem RowL.next {W wo wm w' : World} {rows : List (List Bool)} {m k R : Nat} {v v' : Value} {row : List Bool} {bs : List Nat} (h : RowL W rows m v k bs wo) (hr : rows[k]? = some row) (hb : Below wo.heap.size wo wm) (hR : Blk' wm R 4 (bcells row)) (hRl : row.length = m) (hR0 : wo.heap.size ≤ R)
    (hrow : w'.ownsRow W.heap.size 70 1 v' (k + 1) ((bs.map fun b => rowSl b m) ++ [rowSl R m])) (hg : wm.grownBy w' v.ownBlock) (hat : v'.ownBlock = v.ownBlock ∨ v'.ownBlock = some wm.heap.size) : RowL W rows m v' (k + 1) (bs ++ [R]) w' := by
  obtain ⟨h1, h2, h3, h4, h5, h6, h7⟩ := h
  have hV : ∀ g, v.ownBlock = some g → W.heap.size ≤ g ∧ g < wo.heap.size := h4.lt
  have hsm := hb.size
  have hRlt := hR.lt
  have hown : ∀ b, (b ∈ bs ∨ b = R) → v'.ownBlock ≠ some b := fun b hbb e => by
    rcases hat with q | q
    · rw [q] at e
      rcases hbb with hbb | hbb
      · exact (h6 b hbb).2.2 e
      · have := (hV b e).2; omega
    · rw [q] at e
      injection e with e
      rcases hbb with hbb | hbb
      · have := (h6 b hbb).1; omega
      · omega
  have hkm : Kept (fun b => v.ownBlock = some b) wo w' := (Kept.of_below _ hb).grown hg (fun k hk => .inl hk)
  refine ⟨(List.getElem?_eq_some_iff.1 hr).1, by simp [h2], h3.trans (hkm.to_below (fun b hbb => (hV b hbb).1) h3.size), by rw [List.map_append]; exact hrow, fun i b row' hi hr' => ?_, fun b hbb => ?_, ?_⟩
  · rcases Nat.lt_or_ge i bs.length with hlt | hge
    · rw [List.getElem?_append_left hlt] at hi
      exact ⟨(h5 i b row' hi hr').1.kept hkm (h6 b (List.mem_of_getElem? hi)).2.2, (h5 i b row' hi hr').2⟩
    · rw [List.getElem?_append_right hge] at hi
      have e1 : i - bs.length = 0 := by
        have := (List.getElem?_eq_some_iff.1 hi).1
        simp at this; omega
      rw [e1] at hi
      simp at hi
      subst hi
      have e2 : i = k := by omega
      subst e2
      rw [hr] at hr'
      injection hr' with hr'
      subst hr'
      exact ⟨hR.grown hg (fun e => by have := (hV _ e.symm).2; omega), hRl⟩
  · rcases List.mem_append.1 hbb with hbb | hbb
    · exact ⟨Nat.lt_of_lt_of_le (h6 b hbb).1 hkm.size, (h6 b hbb).2.1, hown b (.inl hbb)⟩
    · simp at hbb
      subst hbb
      exact ⟨Nat.lt_of_lt_of_le hRlt hg.size, by have := h3.size; omega, hown _ (.inr rfl)⟩
  · rw [List.nodup_append]
    exact ⟨h7, by simp, fun a ha b hb' e => by simp at hb'; subst hb'; have := (h6 a ha).1; omega⟩
theorem RowL.done {W wo : World} {rows : List (List Bool)} {m n : Nat} {v : Value} (hn : 1 ≤ n) (hl : rows.length = n) {bs : List Nat} (h : RowL W rows m v n bs wo) : ∃ bf cf, v = .slice (some ⟨bf, 0, none⟩) n cf ∧ RowsM wo bf bs m n cf rows ∧ Below W.heap.size W wo ∧ (∀ b ∈ bf :: bs, W.heap.size ≤ b) := by
  obtain ⟨h1, h2, h3, h4, h5, h6, h7⟩ := h
  obtain ⟨_, k2⟩ := h4
  rcases k2 with ⟨_, k3⟩ | ⟨bf, cap, cur, rfl, k4, k5, k6, k7, k8, k9⟩
  · omega
  · have hcell : ∀ (i b : Nat), bs[i]? = some b → wo.cell? ⟨bf, i, none⟩ = some (rowSl b m) := fun i b hib => by
      rw [cell_of_row wo bf i cur 70 (0, 0) k5]
      have hl : i < bs.length := (List.getElem?_eq_some_iff.1 hib).1
      have h10 : (bs.map fun b => rowSl b m)[i]? = some (rowSl b m) := by simp [hib]
      rw [← k9, List.getElem?_take] at h10
      rw [if_pos (by omega)] at h10
      rw [← Array.getElem?_toList]
      exact h10
    refine ⟨bf, cap, rfl, ⟨hl, h2, hcell, h5, ?_, (Array.getElem?_eq_some_iff.1 k5).1, k6, by simpa [maxLen] using k7⟩, h3, fun b hb => ?_⟩
    · rw [List.nodup_cons]
      exact ⟨fun hm => (h6 bf hm).2.2 rfl, h7⟩
    · rcases List.mem_cons.1 hb with rfl | hb
      · exact k4
      · exact (h6 b hb).2.1
end Go.Proofs.Ytecofoilghdedaa

/- Rows of bools made one by one into a slice that was made whole: its memory. -/
namespace Go.Proofs.Ytecofoilghdedaa
open Go.RowKit
set_option linter.unusedVariables false

/-- Slices of rows: the first ones made, the others nil. -/
def scells (bs : List Nat) (m n : Nat) : Array Value := ((bs.map fun b => rowSl b m) ++ List.replicate (n - bs.length) (Value.slice none 0 0)).toArray
theorem scells_get {bs : List Nat} {m n i b : Nat} (h : bs[i]? = some b) : (scells bs m n)[i]? = some (rowSl b m) := by
  have hi := (List.getElem?_eq_some_iff.1 h).1
  unfold scells
  rw [List.getElem?_toArray, List.getElem?_append_left (by simpa using hi)]
  simp [h]
theorem scells_set {bs : List Nat} {m n b : Nat} (h : bs.length < n) : (scells bs m n).setIfInBounds bs.length (rowSl b m) = scells (bs ++ [b]) m n := by
  apply Array.ext'
  unfold scells
  simp only [Array.toList_setIfInBounds]
  apply List.ext_getElem?
  intro j
  rw [List.getElem?_set]
  by_cases e : bs.length = j
  · subst e
    rw [if_pos rfl, if_pos (by simp; omega), List.getElem?_append_left (by simp)]
    simp
  · rw [if_neg e]
    rcases Nat.lt_or_ge j bs.length with hj | hj
    · rw [List.getElem?_append_left (by simpa using hj), List.getElem?_append_left (by simp; omega)]
      rw [List.map_append, List.getElem?_append_left (by simpa using hj)]
    · rw [List.getElem?_append_right (by simpa using hj), List.getElem?_append_right (by simp; omega), List.getElem?_replicate, List.getElem?_replicate]
      simp only [List.length_map, List.length_append, List.length_cons, List.length_nil]
      by_cases hn : j < n
      · rw [if_pos (by omega), if_pos (by omega)]
      · rw [if_neg (by omega), if_neg (by omega)]
theorem scells_nil {bs : List Nat} {m n i : Nat} (h : bs.length ≤ i) (hi : i < n) : (scells bs m n)[i]? = some (.slice none 0 0) := by
  unfold scells
  rw [List.getElem?_toArray, List.getElem?_append_right (by simpa using h), List.getElem?_replicate, if_pos (by simp; omega)]
theorem mkRows (n : Nat) (hn : n ≤ 1000000) (W : World) : (Instr.makeSlice 71 (.int .i64 (n : Int)) (.int .i64 (n : Int))).run Try.prog W = .ok (.slice (some ⟨W.heap.size, 0, none⟩) n n) (W.alloc (.cells (scells [] 0 n) 70)) := by
  obtain ⟨i0, hi, hz0, hz1, hz2⟩ := info_parts infoBools
  have h := run_makeSlice (P := Try.prog) W 71 70 i0 (.slice none 0 0) Try.underlying71 hi hz0 .i64 .i64 (n : Int) (n : Int) (by omega) (Int.le_refl _) (by rw [hz1]; simp; omega) (by rw [hz2]; omega) (by omega)
  rw [h, hz1]
  simp only [Int.toNat_natCast]
  have e : madeCells (Value.slice none 0 0).cells (n * 1) = scells [] 0 n := by
    apply Array.ext'
    show (madeCells #[Value.slice none 0 0] (n * 1)).toList = _
    rw [toList_madeCells_one]
    simp [scells]
  rw [e]
theorem scells_any (m m' n : Nat) : scells [] m n = scells [] m' n := rfl

/-- The first rows are made. -/
structure RowP (w : World) (bf n m : Nat) (bs : List Nat) (f : List (List Bool)) : Prop where
  flen : f.length = bs.length
  le : bs.length ≤ n
  outer : Blk' w bf 70 (scells bs m n)
  rows : ∀ (i b : Nat) (row : List Bool), bs[i]? = some b → f[i]? = some row → Blk' w b 4 (bcells row) ∧ row.length = m
  lt : ∀ b ∈ bs, bf < b ∧ b < w.heap.size
  nodup : bs.Nodup
theorem RowP.start {w : World} {bf n : Nat} (m : Nat) (h : Blk' w bf 70 (scells [] 0 n)) : RowP w bf n m [] [] :=
  ⟨rfl, Nat.zero_le _, h, by simp, by simp, List.nodup_nil⟩
theorem RowP.next {w w' : World} {bf n m R : Nat} {bs : List Nat} {f : List (List Bool)} {row : List Bool} (h : RowP w bf n m bs f) (hlt : bs.length < n) (k : Kept (fun b => b = bf) w w') (hO : Blk' w' bf 70 (scells (bs ++ [R]) m n)) (hR : Blk' w' R 4 (bcells row)) (hl : row.length = m) (hR0 : w.heap.size ≤ R) :
    RowP w' bf n m (bs ++ [R]) (f ++ [row]) := by
  have hbf := h.outer.lt
  refine ⟨by simp [h.flen], by simp; omega, hO, fun i b row' hi hr => ?_, fun b hbm => ?_, ?_⟩
  · rcases Nat.lt_or_ge i bs.length with hlt2 | hge
    · rw [List.getElem?_append_left hlt2] at hi
      rw [List.getElem?_append_left (by rw [h.flen]; exact hlt2)] at hr
      obtain ⟨h1, h2⟩ := h.rows i b row' hi hr
      have hm := h.lt b (List.mem_of_getElem? hi)
      exact ⟨h1.kept k (by omega), h2⟩
    · have e1 : i = bs.length := by have := (List.getElem?_eq_some_iff.1 hi).1; simp at this; omega
      subst e1
      rw [List.getElem?_append_right (Nat.le_refl _)] at hi
      rw [List.getElem?_append_right (by rw [h.flen]; exact Nat.le_refl _), h.flen] at hr
      simp at hi hr
      subst hi; subst hr
      exact ⟨hR, hl⟩
  · have hs := k.size
    rcases List.mem_append.1 hbm with hbm | hbm
    · have := h.lt b hbm
      exact ⟨this.1, by omega⟩
    · simp at hbm
      subst hbm
      exact ⟨by omega, hR.lt⟩
  · rw [List.nodup_append]
    exact ⟨h.nodup, by simp, fun a ha b hb' e => by simp at hb'; subst hb'; have := h.lt a ha; omega⟩
theorem RowP.done {w : World} {bf n m : Nat} {bs : List Nat} {f : List (List Bool)} (h : RowP w bf n m bs f) (hn : bs.length = n) (hm : n ≤ 9223372036854775807) : RowsM w bf bs m n n f :=
  ⟨by rw [h.flen, hn], hn, fun i b hib => (h.outer.cell i).trans (scells_get hib), h.rows, by
    simp only [List.nodup_cons]
    exact ⟨fun hm => by have := h.lt bf hm; omega, h.nodup⟩, h.outer.lt, Nat.le_refl _, hm⟩
end Go.Proofs.Ytecofoilghdedaa

/- The plain law of FirstFollows: where the sets are closed under the rules, every node of a tree of Start has its next terminal in Follow and its first one in Predict. No program is named here. -/
namespace Go.Proofs.Ytecofoilghdedaa
open Go.RowKit
set_option linter.unusedVariables false

/-- Follow sets that are closed under the rules of the nonterminals that are reached. -/
structure ClosedFol (g : Gram) (m : Nat) (e : List Bool) (f : List (List Bool)) (inn : List Bool) (fol : List (List Bool)) : Prop where
  len : fol.length = g.nons.toNat
  rows : ∀ (n : Nat) (row : List Bool), fol[n]? = some row → row.length = m + 1
  startIn : inn.getD g.start.toNat false = true
  start : (fol.getD g.start.toNat [])[m]? = some true
  reach : ∀ q ∈ g.rules, inn.getD q.left.toNat false = true → ∀ x ∈ q.right, x.term = false → inn.getD x.n.toNat false = true
  row : ∀ q ∈ g.rules, inn.getD q.left.toNat false = true → ∀ (i : Nat) (x : Sym), q.right[i]? = some x → x.term = false → ∀ j : Nat, (ofFrom e f (List.replicate m false) (q.right.drop (i + 1))).1[j]? = some true → (fol.getD x.n.toNat [])[j]? = some true
  pass : ∀ q ∈ g.rules, inn.getD q.left.toNat false = true → ∀ (i : Nat) (x : Sym), q.right[i]? = some x → x.term = false → (ofFrom e f (List.replicate m false) (q.right.drop (i + 1))).2 = true → ∀ j : Nat, (fol.getD q.left.toNat [])[j]? = some true → (fol.getD x.n.toNat [])[j]? = some true
/-- A rule's row of Predict. -/
def predRow (m : Nat) (e : List Bool) (f : List (List Bool)) (fol : List (List Bool)) (q : Rule) : List Bool :=
  if (ofFrom e f (List.replicate m false) q.right).2 then orRow ((ofFrom e f (List.replicate m false) q.right).1 ++ [false]) (fol.getD q.left.toNat []) else (ofFrom e f (List.replicate m false) q.right).1 ++ [false]
theorem predRow_len (m : Nat) (e : List Bool) (f : List (List Bool)) (fol : List (List Bool)) (q : Rule) : (predRow m e f fol q).length = m + 1 := by
  unfold predRow
  split <;> simp [orRow_len, ofFrom_len]
mutual
/-- What the law's closure tests of a node, and of those below it. -/
def goodP (g : Gram) (m : Nat) (fol pre : List (List Bool)) (w : List Int) : Tree → Nat → Prop
  | ⟨r, _, ks⟩, at_ => r < 0 ∨ ((∃ (q : Rule) (a b : List Bool) (ce ca : Int), g.rules[r.toNat]? = some q ∧ fol[q.left.toNat]? = some a ∧ pre[r.toNat]? = some b ∧ w[at_ + (yields ks).length]? = some ce ∧ w[at_]? = some ca ∧ 0 ≤ ce ∧ 0 ≤ ca ∧ a[ce.toNat]? = some true ∧ b[ca.toNat]? = some true ∧ a.length = m + 1 ∧ b.length = m + 1) ∧ goodPs g m fol pre w ks at_)
def goodPs (g : Gram) (m : Nat) (fol pre : List (List Bool)) (w : List Int) : List Tree → Nat → Prop
  | [], _ => True
  | k :: ks, at_ => goodP g m fol pre w k at_ ∧ goodPs g m fol pre w ks (at_ + (yieldT k).length)
end

mutual
theorem good_law {g : Gram} {m : Nat} {e inn : List Bool} {f fol pre : List (List Bool)} {w : List Int} (hc : ClosedS g m e f) (hok : ∀ q ∈ g.rules, ∀ s ∈ q.right, SymIn m g s) (hlo : ∀ q ∈ g.rules, 0 ≤ q.left ∧ q.left < g.nons) (hf : ClosedFol g m e f inn fol)
    (hp : ∀ (i : Nat) (q : Rule), g.rules[i]? = some q → pre[i]? = some (predRow m e f fol q)) :
    ∀ (t : Tree) (s : Sym) (at_ : Nat) (c : Int) (rest : List Int), vt g t s → (s.term = false → inn.getD s.n.toNat false = true ∧ (fol.getD s.n.toNat [])[c.toNat]? = some true) → w.drop at_ = yieldT t ++ c :: rest → 0 ≤ c → goodP g m fol pre w t at_
  | ⟨r, t, ks⟩, s, at_, c, rest, h, hs, hw, hc0 => by
    unfold goodP
    unfold vt at h
    split at h
    · exact .inl (by omega)
    · rename_i hst
      have hst : s.term = false := by simpa using hst
      obtain ⟨hin, hfc⟩ := hs hst
      obtain ⟨_, hr, q, hq, hql, hks⟩ := h
      have hm := List.mem_of_getElem? hq
      have hy : yieldT ⟨r, t, ks⟩ = yields ks := by unfold yieldT; rw [if_neg (by omega)]
      rw [hy] at hw
      have hl := hlo q hm
      have hlt : q.left.toNat < fol.length := by rw [hf.len]; omega
      obtain ⟨a, ha⟩ : ∃ a, fol[q.left.toNat]? = some a := ⟨_, List.getElem?_eq_getElem hlt⟩
      have hga : fol.getD q.left.toNat [] = a := by rw [List.getD_eq_getElem?_getD, ha]; rfl
      have hal := hf.rows _ _ ha
      rw [← hql, hga] at hfc
      have hfk := first_kids hc hok ks q.right (List.replicate m false) (by simp) (hok q hm) hks
      have hce : w[at_ + (yields ks).length]? = some c := by
        have h1 : (w.drop at_)[(yields ks).length]? = some c := by rw [hw]; simp
        simpa using h1
      refine .inr ⟨?_, goods_law hc hok hlo hf hp q hm (by rw [hql]; exact hin) 0 ks at_ c rest (by simpa using hks) (by rw [hga]; exact hfc) hw hc0⟩
      cases hyk : yields ks with
      | nil =>
        rw [hyk] at hw hce
        have hem := hfk.1 hyk
        have hca : w[at_]? = some c := by simpa using hce
        refine ⟨q, a, predRow m e f fol q, c, c, hq, ha, hp _ _ hq, by simpa using hce, hca, hc0, hc0, hfc, ?_, hal, predRow_len _ _ _ _ _⟩
        unfold predRow
        rw [if_pos hem, hga]
        exact orRow_right _ _ _ (by simp [ofFrom_len, hal]) hfc
      | cons c' w' =>
        obtain ⟨h1, h2, h3⟩ := hfk.2 _ _ hyk
        rw [hyk] at hw hce
        have hca : w[at_]? = some c' := by
          have h4 : (w.drop at_)[0]? = some c' := by rw [hw]; simp
          simpa using h4
        refine ⟨q, a, predRow m e f fol q, c, c', hq, ha, hp _ _ hq, hce, hca, hc0, h1, hfc, ?_, hal, predRow_len _ _ _ _ _⟩
        have h4 : ((ofFrom e f (List.replicate m false) q.right).1 ++ [false])[c'.toNat]? = some true := by
          rw [List.getElem?_append_left (List.getElem?_eq_some_iff.1 h3).1]; exact h3
        unfold predRow
        split
        · exact orRow_left _ _ _ h4
        · exact h4
theorem goods_law {g : Gram} {m : Nat} {e inn : List Bool} {f fol pre : List (List Bool)} {w : List Int} (hc : ClosedS g m e f) (hok : ∀ q ∈ g.rules, ∀ s ∈ q.right, SymIn m g s) (hlo : ∀ q ∈ g.rules, 0 ≤ q.left ∧ q.left < g.nons) (hf : ClosedFol g m e f inn fol)
    (hp : ∀ (i : Nat) (q : Rule), g.rules[i]? = some q → pre[i]? = some (predRow m e f fol q)) (q : Rule) (hm : q ∈ g.rules) (hin : inn.getD q.left.toNat false = true) :
    ∀ (i : Nat) (ks : List Tree) (at_ : Nat) (c : Int) (rest : List Int), vts g ks (q.right.drop i) → (fol.getD q.left.toNat [])[c.toNat]? = some true → w.drop at_ = yields ks ++ c :: rest → 0 ≤ c → goodPs g m fol pre w ks at_
  | _, [], at_, c, rest, _, _, _, _ => by simp [goodPs]
  | i, k :: ks, at_, c, rest, h, hfc, hw, hc0 => by
    unfold goodPs
    rcases Nat.lt_or_ge i q.right.length with hlt | hge
    · obtain ⟨x, hx⟩ : ∃ x, q.right[i]? = some x := ⟨_, List.getElem?_eq_getElem hlt⟩
      have hd : q.right.drop i = x :: q.right.drop (i + 1) := by
        obtain ⟨hlt, rfl⟩ := List.getElem?_eq_some_iff.1 hx
        exact List.drop_eq_getElem_cons hlt
      rw [hd] at h
      unfold vts at h
      have hw2 : w.drop at_ = yieldT k ++ (yields ks ++ c :: rest) := by rw [hw, yields, List.append_assoc]
      have hw3 : w.drop (at_ + (yieldT k).length) = yields ks ++ c :: rest := by
        rw [← List.drop_drop, hw2]; simp
      have hfk := first_kids hc hok ks (q.right.drop (i + 1)) (List.replicate m false) (by simp) (fun s hs => hok q hm s (List.mem_of_mem_drop hs)) h.2
      refine ⟨?_, goods_law hc hok hlo hf hp q hm hin (i + 1) ks _ c rest h.2 hfc hw3 hc0⟩
      cases hyk : yields ks with
      | nil =>
        rw [hyk] at hw2
        exact good_law hc hok hlo hf hp k x at_ c rest h.1 (fun hxt => ⟨hf.reach q hm hin x (List.mem_of_getElem? hx) hxt, hf.pass q hm hin i x hx hxt (hfk.1 hyk) _ hfc⟩) hw2 hc0
      | cons c' w' =>
        obtain ⟨h1, h2, h3⟩ := hfk.2 _ _ hyk
        rw [hyk] at hw2
        exact good_law hc hok hlo hf hp k x at_ c' (w' ++ c :: rest) h.1 (fun hxt => ⟨hf.reach q hm hin x (List.mem_of_getElem? hx) hxt, hf.row q hm hin i x hx hxt _ h3⟩) (by rw [hw2]; rfl) h1
    · rw [List.drop_of_length_le hge] at h
      simp [vts] at h
end
end Go.Proofs.Ytecofoilghdedaa

/- The reference's closure of a relation: as many rounds as there are places reach every place that a way leads to. No program is named here. -/
namespace Go.Proofs.Ytecofoilghdedaa
open Go.RowKit
set_option linter.unusedVariables false

def Gt (m : List (List Bool)) (i j : Nat) : Prop := (m.getD i [])[j]? = some true
/-- Row i takes row k, if k stands in it. -/
def warCell (m : List (List Bool)) (i k : Nat) : List (List Bool) :=
  if (m.getD i []).getD k false then m.set i (orRow (m.getD i []) (m.getD k [])) else m
def warRow (m : List (List Bool)) (i : Nat) (ks : List Nat) : List (List Bool) := ks.foldl (fun m k => warCell m i k) m
def warRound (n : Nat) (m : List (List Bool)) (is : List Nat) : List (List Bool) := is.foldl (fun m i => warRow m i (List.range n)) m
def warIter (n : Nat) : Nat → List (List Bool) → List (List Bool)
  | 0, m => m
  | k + 1, m => warRound n (warIter n k m) (List.range n)
/-- A way of steps of m. -/
inductive Wk (m : List (List Bool)) (i : Nat) : Nat → Prop where
  | refl : Wk m i i
  | snoc (k j : Nat) (h : Wk m i k) (hs : Gt m k j) : Wk m i j
theorem Wk.trans {m : List (List Bool)} {i k j : Nat} (h : Wk m i k) (g : Wk m k j) : Wk m i j := by
  induction g with
  | refl => exact h
  | snoc a b _ hs ih => exact .snoc a b ih hs
theorem Wk.one {m : List (List Bool)} {i j : Nat} (h : Gt m i j) : Wk m i j := .snoc i j .refl h

structure WarS (n : Nat) (m : List (List Bool)) : Prop where
  len : m.length = n
  row : ∀ (i : Nat) (r : List Bool), m[i]? = some r → r.length = n
theorem WarS.get {n : Nat} {m : List (List Bool)} (h : WarS n m) {i : Nat} (hi : i < n) : ∃ r, m[i]? = some r ∧ m.getD i [] = r ∧ r.length = n := by
  obtain ⟨r, hr⟩ := get_some (show i < m.length by rw [h.len]; exact hi)
  exact ⟨r, hr, by rw [List.getD_eq_getElem?_getD, hr]; rfl, h.row i r hr⟩
/-- What m0's ways allow, and what is kept. -/
structure WarI (n : Nat) (m0 m : List (List Bool)) : Prop where
  shape : WarS n m
  mono : ∀ i j : Nat, Gt m0 i j → Gt m i j
  sound : ∀ i j : Nat, Gt m i j → Wk m0 i j
theorem warSet_get {n : Nat} {m : List (List Bool)} (h : WarS n m) {i k : Nat} (hi : i < n) (hk : k < n) (a b : Nat) : Gt (m.set i (orRow (m.getD i []) (m.getD k []))) a b ↔ (Gt m a b ∨ (a = i ∧ Gt m k b)) := by
  obtain ⟨r, h1, h2, h3⟩ := h.get hi
  obtain ⟨r', k1, k2, k3⟩ := h.get hk
  unfold Gt
  rw [List.getD_eq_getElem?_getD, List.getElem?_set]
  by_cases e : i = a
  · subst e
    rw [if_pos rfl, if_pos (by rw [h.len]; exact hi), h2, k2]
    simp only [Option.getD_some]
    constructor
    · intro hx
      rcases orRow_or _ _ _ hx with hx | hx
      · exact .inl hx
      · exact .inr ⟨by first | rfl | trivial, hx⟩
    · rintro (hx | ⟨_, hx⟩)
      · exact orRow_left _ _ _ hx
      · exact orRow_right _ _ _ (by omega) hx
  · rw [if_neg e, ← List.getD_eq_getElem?_getD]
    constructor
    · exact fun hx => .inl hx
    · rintro (hx | ⟨hx, _⟩)
      · exact hx
      · exact absurd hx.symm e
theorem gt_getD {m : List (List Bool)} {i k : Nat} : (m.getD i []).getD k false = true ↔ Gt m i k := by
  unfold Gt
  rw [List.getD_eq_getElem?_getD]
  cases (m.getD i [])[k]? <;> simp
theorem WarS.set {n : Nat} {m : List (List Bool)} (h : WarS n m) {i : Nat} {r : List Bool} (hr : r.length = n) : WarS n (m.set i r) :=
  ⟨by rw [List.length_set, h.len], fun j x hx => by
    rw [List.getElem?_set] at hx
    split at hx
    · split at hx
      · simp at hx; rw [← hx]; exact hr
      · simp at hx
    · exact h.row j x hx⟩
theorem WarI.cell {n : Nat} {m0 m : List (List Bool)} (h : WarI n m0 m) {i k : Nat} (hi : i < n) (hk : k < n) : WarI n m0 (warCell m i k) ∧ (∀ a b, Gt m a b → Gt (warCell m i k) a b) ∧ (∀ b, Gt m i k → Gt m k b → Gt (warCell m i k) i b) := by
  unfold warCell
  split
  · rename_i hc
    rw [gt_getD] at hc
    obtain ⟨r, h1, h2, h3⟩ := h.shape.get hi
    refine ⟨⟨h.shape.set (by rw [orRow_len, h2]; exact h3), fun a b hab => (warSet_get h.shape hi hk a b).2 (.inl (h.mono a b hab)), fun a b hab => ?_⟩, fun a b hab => (warSet_get h.shape hi hk a b).2 (.inl hab), fun b _ hb => (warSet_get h.shape hi hk i b).2 (.inr ⟨rfl, hb⟩)⟩
    rcases (warSet_get h.shape hi hk a b).1 hab with h4 | ⟨rfl, h4⟩
    · exact h.sound a b h4
    · exact (h.sound _ _ hc).trans (h.sound _ _ h4)
  · rename_i hc
    rw [gt_getD] at hc
    exact ⟨h, fun _ _ h => h, fun b hb => absurd hb hc⟩
theorem WarI.row {n : Nat} {m0 : List (List Bool)} {i : Nat} (hi : i < n) : ∀ (ks : List Nat) (m : List (List Bool)), WarI n m0 m → (∀ k ∈ ks, k < n) → WarI n m0 (warRow m i ks) ∧ (∀ a b, Gt m a b → Gt (warRow m i ks) a b) ∧ (∀ k ∈ ks, ∀ b, Gt m i k → Gt m0 k b → Gt (warRow m i ks) i b)
  | [], m, h, _ => ⟨h, fun _ _ h => h, by simp⟩
  | k :: ks, m, h, hk => by
    obtain ⟨c1, c2, c3⟩ := h.cell hi (hk k (by simp))
    obtain ⟨i1, i2, i3⟩ := WarI.row hi ks (warCell m i k) c1 (fun x hx => hk x (by simp [hx]))
    refine ⟨i1, fun a b hab => i2 a b (c2 a b hab), fun x hx b hab hb => ?_⟩
    rcases List.mem_cons.1 hx with rfl | hx
    · exact i2 _ _ (c3 b hab (h.mono _ _ hb))
    · exact i3 x hx b (c2 _ _ hab) hb
theorem WarI.round {n : Nat} {m0 : List (List Bool)} : ∀ (is : List Nat) (m : List (List Bool)), WarI n m0 m → (∀ i ∈ is, i < n) → WarI n m0 (warRound n m is) ∧ (∀ a b, Gt m a b → Gt (warRound n m is) a b) ∧ (∀ i ∈ is, ∀ k, k < n → ∀ b, Gt m i k → Gt m0 k b → Gt (warRound n m is) i b)
  | [], m, h, _ => ⟨h, fun _ _ h => h, by simp⟩
  | i :: is, m, h, hi => by
    obtain ⟨c1, c2, c3⟩ := WarI.row (hi i (by simp)) (List.range n) m h (fun k hk => List.mem_range.1 hk)
    obtain ⟨i1, i2, i3⟩ := WarI.round is (warRow m i (List.range n)) c1 (fun x hx => hi x (by simp [hx]))
    refine ⟨i1, fun a b hab => i2 a b (c2 a b hab), fun x hx k hk b hab hb => ?_⟩
    rcases List.mem_cons.1 hx with rfl | hx
    · exact i2 _ _ (c3 k (List.mem_range.2 hk) b hab hb)
    · exact i3 x hx k hk b (c2 _ _ hab) hb
theorem true_count : ∀ (a b : List Bool), a.length = b.length → (∀ j : Nat, a[j]? = some true → b[j]? = some true) → a.count true ≤ b.count true ∧ ((∃ j : Nat, b[j]? = some true ∧ ¬ a[j]? = some true) → a.count true < b.count true)
  | [], [], _, _ => by simp
  | [], _ :: _, h, _ => by simp at h
  | _ :: _, [], h, _ => by simp at h
  | x :: a, y :: b, h, hm => by
    obtain ⟨i1, i2⟩ := true_count a b (by simpa using h) (fun j hj => by have := hm (j + 1) (by simpa using hj); simpa using this)
    have h0 := hm 0
    simp only [List.count_cons]
    cases x
    · cases y
      · refine ⟨by simpa using i1, fun ⟨j, hj, hn⟩ => ?_⟩
        cases j with
        | zero => simp at hj
        | succ j => have := i2 ⟨j, by simpa using hj, by simpa using hn⟩; simpa using this
      · refine ⟨by simp; omega, fun _ => by simp; omega⟩
    · simp at h0
      subst h0
      refine ⟨by simpa using i1, fun ⟨j, hj, hn⟩ => ?_⟩
      cases j with
      | zero => simp at hn
      | succ j => have := i2 ⟨j, by simpa using hj, by simpa using hn⟩; simpa using this
theorem war_iter {n : Nat} {m0 : List (List Bool)} (h : WarS n m0) (hd : ∀ i, i < n → Gt m0 i i) : ∀ k, WarI n m0 (warIter n k m0) ∧ ∀ i, i < n → (∀ j, Wk m0 i j → Gt (warIter n k m0) i j) ∨ k + 1 ≤ ((warIter n k m0).getD i []).count true
  | 0 => by
    refine ⟨⟨h, fun _ _ h => h, fun _ _ h => Wk.one h⟩, fun i hi => .inr ?_⟩
    have h1 : Gt m0 i i := hd i hi
    have := List.count_pos_iff.2 (List.mem_of_getElem? h1)
    show 0 + 1 ≤ (m0.getD i []).count true
    omega
  | k + 1 => by
    obtain ⟨h1, h2⟩ := war_iter h hd k
    obtain ⟨r1, r2, r3⟩ := WarI.round (List.range n) (warIter n k m0) h1 (fun i hi => List.mem_range.1 hi)
    refine ⟨r1, fun i hi => ?_⟩
    rcases h2 i hi with h3 | h3
    · exact .inl fun j hj => r2 _ _ (h3 j hj)
    · by_cases hc : ∀ a b, Gt (warIter n k m0) i a → Gt m0 a b → Gt (warIter n k m0) i b
      · refine .inl fun j hj => r2 _ _ ?_
        induction hj with
        | refl => exact h1.mono _ _ (hd i hi)
        | snoc a b _ hs ih => exact hc a b ih hs
      · refine .inr ?_
        have ⟨a, b, ha, hb, hn⟩ : ∃ a b, Gt (warIter n k m0) i a ∧ Gt m0 a b ∧ ¬ Gt (warIter n k m0) i b := by
          false_or_by_contra
          rename_i hx
          exact hc fun a b ha hb => by
            false_or_by_contra
            rename_i hy
            exact hx ⟨a, b, ha, hb, hy⟩
        have han : a < n := by
          obtain ⟨r, g1, g2, g3⟩ := h1.shape.get hi
          unfold Gt at ha
          rw [g2] at ha
          have := (List.getElem?_eq_some_iff.1 ha).1
          omega
        have hnew := r3 i (List.mem_range.2 hi) a han b ha hb
        obtain ⟨r, g1, g2, g3⟩ := h1.shape.get hi
        obtain ⟨r', k1, k2, k3⟩ := r1.shape.get hi
        have hlt := (true_count r r' (by omega) (fun j hj => by have := r2 i j (by unfold Gt; rw [g2]; exact hj); unfold Gt at this; rw [k2] at this; exact this)).2 ⟨b, by unfold Gt at hnew; rw [k2] at hnew; exact hnew, by unfold Gt at hn; rw [g2] at hn; exact hn⟩
        rw [g2] at h3
        show k + 1 + 1 ≤ ((warRound n (warIter n k m0) (List.range n)).getD i []).count true
        rw [k2]
        omega
/-- As many rounds as there are places: all ways. -/
theorem war_end {n : Nat} {m0 : List (List Bool)} (h : WarS n m0) (hd : ∀ i, i < n → Gt m0 i i) : WarS n (warIter n n m0) ∧ ∀ i, i < n → ∀ j, Gt (warIter n n m0) i j ↔ Wk m0 i j := by
  obtain ⟨h1, h2⟩ := war_iter h hd n
  refine ⟨h1.shape, fun i hi j => ⟨h1.sound i j, fun hj => ?_⟩⟩
  rcases h2 i hi with h3 | h3
  · exact h3 j hj
  · obtain ⟨r, g1, g2, g3⟩ := h1.shape.get hi
    rw [g2] at h3
    have := List.count_le_length (a := true) (l := r)
    omega
end Go.Proofs.Ytecofoilghdedaa

/- The plain law of cycle.closure: three nested loops close a relation. -/
namespace Go.Proofs.Ytecofoilghdedaa
open Go.RowKit
set_option linter.unusedVariables false

inductive Plus (E : Nat → Nat → Prop) (a : Nat) : Nat → Prop where
  | one (b : Nat) (h : E a b) : Plus E a b
  | snoc (b c : Nat) (h : Plus E a b) (hs : E b c) : Plus E a c
theorem Plus.trans {E : Nat → Nat → Prop} {a b c : Nat} (h : Plus E a b) (k : Plus E b c) : Plus E a c := by
  induction k with
  | one c hs => exact .snoc b c h hs
  | snoc x y _ hs ih => exact .snoc x y ih hs
/-- From a to b with only places below k between. -/
def ViaLt (E : Nat → Nat → Prop) : Nat → Nat → Nat → Prop
  | 0, a, b => E a b
  | k + 1, a, b => ViaLt E k a b ∨ (ViaLt E k a k ∧ ViaLt E k k b)
theorem ViaLt.plus {E : Nat → Nat → Prop} : ∀ (k a b : Nat), ViaLt E k a b → Plus E a b
  | 0, a, b, h => .one b h
  | k + 1, a, b, h => by
    rcases h with h | ⟨h1, h2⟩
    · exact ViaLt.plus k a b h
    · exact (ViaLt.plus k a k h1).trans (ViaLt.plus k k b h2)
theorem ViaLt.mono {E : Nat → Nat → Prop} {a b : Nat} : ∀ (k : Nat), E a b → ViaLt E k a b
  | 0, h => h
  | k + 1, h => .inl (ViaLt.mono k h)
theorem ViaLt.trans {E : Nat → Nat → Prop} : ∀ (k a b c : Nat), b < k → ViaLt E k a b → ViaLt E k b c → ViaLt E k a c
  | 0, a, b, c, hb, _, _ => by omega
  | k + 1, a, b, c, hb, h1, h2 => by
    by_cases e : b = k
    · subst e
      have g1 : ViaLt E b a b := by
        rcases h1 with h | ⟨h, _⟩ <;> exact h
      have g2 : ViaLt E b b c := by
        rcases h2 with h | ⟨_, h⟩ <;> exact h
      exact .inr ⟨g1, g2⟩
    · have hk : b < k := by omega
      rcases h1 with h1 | ⟨h1, h3⟩
      · rcases h2 with h2 | ⟨h2, h4⟩
        · exact .inl (ViaLt.trans k a b c hk h1 h2)
        · exact .inr ⟨ViaLt.trans k a b k hk h1 h2, h4⟩
      · rcases h2 with h2 | ⟨h2, h4⟩
        · exact .inr ⟨h1, ViaLt.trans k k b c hk h3 h2⟩
        · exact .inr ⟨h1, h4⟩
theorem ViaLt.of_plus {E : Nat → Nat → Prop} {n a b : Nat} (hE : ∀ a b, E a b → a < n ∧ b < n) (h : Plus E a b) : ViaLt E n a b := by
  induction h with
  | one b h => exact ViaLt.mono n h
  | snoc b c _ hs ih => exact ViaLt.trans n a b c (hE b c hs).1 ih (ViaLt.mono n hs)

theorem WarS.ofRows {w : World} {bf : Nat} {bs : List Nat} {n cf : Nat} {f : List (List Bool)} (h : RowsM w bf bs n n cf f) : WarS n f :=
  ⟨h.flen, fun i r hr => by
    have hi := (List.getElem?_eq_some_iff.1 hr).1
    obtain ⟨b, hb⟩ := get_some (show i < bs.length by rw [h.blen, ← h.flen]; exact hi)
    exact (h.rows i b r hb hr).2⟩
theorem gtSet {n : Nat} {f : List (List Bool)} (h : WarS n f) {r c : Nat} (v : Bool) (hr : r < n) (hc : c < n) (a b : Nat) : Gt (f.set r ((f.getD r []).set c v)) a b ↔ (if a = r ∧ b = c then v = true else Gt f a b) := by
  obtain ⟨w, h1, h2, h3⟩ := h.get hr
  unfold Gt
  rw [List.getD_eq_getElem?_getD, List.getElem?_set]
  by_cases e : r = a
  · subst e
    rw [if_pos rfl, if_pos (by rw [h.len]; exact hr), h2]
    simp only [Option.getD_some]
    rw [List.getElem?_set]
    by_cases e2 : c = b
    · subst e2
      rw [if_pos rfl, if_pos (by omega), if_pos (by simp)]
      simp
    · rw [if_neg e2, if_neg (fun h => e2 h.2.symm)]
  · rw [if_neg e, if_neg (fun h => e h.1.symm), ← List.getD_eq_getElem?_getD]

/-- What holds at round k, row i, place j. -/
structure CloS (E : Nat → Nat → Prop) (n k i j : Nat) (f : List (List Bool)) : Prop where
  shape : WarS n f
  snd : ∀ a b, Gt f a b → Plus E a b
  all : ∀ a b, a < n → b < n → ViaLt E k a b → Gt f a b
  now : ∀ a b, a < n → b < n → (a < i ∨ (a = i ∧ b < j)) → ViaLt E k a k → ViaLt E k k b → Gt f a b
theorem CloS.step {E : Nat → Nat → Prop} {n k i j : Nat} {f : List (List Bool)} (h : CloS E n k i j f) (hk : k < n) (hi : i < n) (hj : j < n) {x y z : Bool} (hx : (f.getD i [])[j]? = some x) (hy : (f.getD i [])[k]? = some y) (hz : (f.getD k [])[j]? = some z) :
    CloS E n k i (j + 1) (f.set i ((f.getD i []).set j (x || (y && z)))) := by
  have hg := gtSet h.shape (x || (y && z)) hi hj
  have gx : x = true ↔ Gt f i j := by unfold Gt; rw [hx]; simp
  have gy : y = true ↔ Gt f i k := by unfold Gt; rw [hy]; simp
  have gz : z = true ↔ Gt f k j := by unfold Gt; rw [hz]; simp
  have hup : ∀ a b, Gt f a b → Gt (f.set i ((f.getD i []).set j (x || (y && z)))) a b := fun a b hab => by
    rw [hg]
    split
    · rename_i e
      rw [e.1, e.2] at hab
      rw [gx.2 hab]
      rfl
    · exact hab
  refine ⟨?_, fun a b hab => ?_, fun a b ha hb hv => hup a b (h.all a b ha hb hv), fun a b ha hb hp h1 h2 => ?_⟩
  · obtain ⟨r, h1, h2, h3⟩ := h.shape.get hi
    exact h.shape.set (by rw [List.length_set, h2]; exact h3)
  · rw [hg] at hab
    split at hab
    · rename_i e
      obtain ⟨rfl, rfl⟩ := e
      rw [Bool.or_eq_true, Bool.and_eq_true] at hab
      rcases hab with hab | ⟨h1, h2⟩
      · exact h.snd _ _ (gx.1 hab)
      · exact (h.snd _ _ (gy.1 h1)).trans (h.snd _ _ (gz.1 h2))
    · exact h.snd a b hab
  · by_cases e : a = i ∧ b = j
    · rw [hg, if_pos e]
      obtain ⟨rfl, rfl⟩ := e
      rw [gy.2 (h.all _ _ ha hk h1), gz.2 (h.all _ _ hk hb h2)]
      simp
    · exact hup a b (h.now a b ha hb (by omega) h1 h2)
theorem CloS.row {E : Nat → Nat → Prop} {n k i : Nat} {f : List (List Bool)} (h : CloS E n k i n f) : CloS E n k (i + 1) 0 f :=
  ⟨h.shape, h.snd, h.all, fun a b ha hb hp => h.now a b ha hb (by omega)⟩
theorem CloS.round {E : Nat → Nat → Prop} {n k : Nat} {f : List (List Bool)} (h : CloS E n k n 0 f) : CloS E n (k + 1) 0 0 f :=
  ⟨h.shape, h.snd, fun a b ha hb hv => by
    rcases hv with hv | ⟨h1, h2⟩
    · exact h.all a b ha hb hv
    · exact h.now a b ha hb (.inl ha) h1 h2, fun a b ha hb hp => by omega⟩
theorem CloS.start {E : Nat → Nat → Prop} {n : Nat} {f : List (List Bool)} (hs : WarS n f) (h : ∀ a b, Gt f a b ↔ E a b) : CloS E n 0 0 0 f :=
  ⟨hs, fun a b hab => .one b ((h a b).1 hab), fun a b _ _ hv => (h a b).2 hv, fun a b ha hb hp => by omega⟩
theorem CloS.done {E : Nat → Nat → Prop} {n : Nat} {f : List (List Bool)} (h : CloS E n n 0 0 f) (hE : ∀ a b, E a b → a < n ∧ b < n) (a b : Nat) (ha : a < n) (hb : b < n) : Gt f a b ↔ Plus E a b :=
  ⟨h.snd a b, fun hp => h.all a b ha hb (ViaLt.of_plus hE hp)⟩
end Go.Proofs.Ytecofoilghdedaa

/- What first.Make computes: rounds over the rules until nothing turns; each turn lowers the number of false places. No program is named here. -/
namespace Go.Proofs.Ytecofoilghdedaa
open Go.RowKit
set_option linter.unusedVariables false

/-- One rule's step. -/
def stepR (m : Nat) (q : Rule) (s : List Bool × List (List Bool)) : List Bool × List (List Bool) :=
  (if (ofFrom s.1 s.2 (List.replicate m false) q.right).2 then s.1.set q.left.toNat true else s.1,
   s.2.set q.left.toNat (orRow (s.2.getD q.left.toNat []) (ofFrom s.1 s.2 (List.replicate m false) q.right).1))
/-- The code's step: first the row, then Empty out of what was computed before. -/
def passR (m : Nat) (rs : List Rule) (s : List Bool × List (List Bool)) : List Bool × List (List Bool) := rs.foldl (fun s q => stepR m q s) s
def iterR (m : Nat) (rs : List Rule) : Nat → List Bool × List (List Bool) → List Bool × List (List Bool)
  | 0, s => s
  | k + 1, s => passR m rs (iterR m rs k s)
def initS (m n : Nat) : List Bool × List (List Bool) := (List.replicate n false, List.replicate n (List.replicate m false))
/-- How many places are false. -/
def falses (s : List Bool × List (List Bool)) : Nat := s.1.count false + (s.2.map fun r => r.count false).sum

theorem orRow_cnt : ∀ (a b : List Bool), (orRow a b).count false ≤ a.count false ∧ (orRow a b ≠ a → (orRow a b).count false < a.count false)
  | [], _ => by simp [orRow]
  | t :: ts, [] => by simp [orRow]
  | t :: ts, f :: fs => by
    have ih := orRow_cnt ts fs
    cases t
    · cases f
      · have e : orRow (false :: ts) (false :: fs) = false :: orRow ts fs := rfl
        rw [e]
        simp only [List.count_cons_self]
        exact ⟨by omega, fun h => by have := ih.2 (fun h' => h (by rw [h'])); omega⟩
      · have e : orRow (false :: ts) (true :: fs) = true :: orRow ts fs := rfl
        have e2 : (true :: orRow ts fs).count false = (orRow ts fs).count false := by simp
        rw [e, List.count_cons_self, e2]
        exact ⟨by omega, fun _ => by omega⟩
    · have e : orRow (true :: ts) (f :: fs) = true :: orRow ts fs := by simp [orRow]
      have e2 : (true :: orRow ts fs).count false = (orRow ts fs).count false := by simp
      have e3 : (true :: ts).count false = ts.count false := by simp
      rw [e, e2, e3]
      exact ⟨ih.1, fun h => ih.2 (fun h' => h (by rw [h']))⟩
theorem sum_set : ∀ (l : List Nat) (i x y : Nat), l[i]? = some x → (l.set i y).sum + x = l.sum + y
  | [], _, _, _, h => by simp at h
  | a :: l, 0, x, y, h => by simp at h; subst h; simp; omega
  | a :: l, i + 1, x, y, h => by
    have := sum_set l i x y (by simpa using h)
    simp only [List.set_cons_succ, List.sum_cons]
    omega
theorem count_set : ∀ (l : List Bool) (i : Nat), l[i]? = some false → (l.set i true).count false + 1 = l.count false
  | [], _, h => by simp at h
  | a :: l, 0, h => by simp at h; subst h; simp
  | a :: l, i + 1, h => by
    have := count_set l i (by simpa using h)
    simp only [List.set_cons_succ, List.count_cons]
    omega
theorem set_id {α : Type} {l : List α} {k : Nat} {x : α} (h : l[k]? = some x) : l.set k x = l := by
  apply List.ext_getElem?
  intro j
  rw [List.getElem?_set]
  by_cases e : k = j
  · subst e; simp [h]; exact (List.getElem?_eq_some_iff.1 h).1
  · simp [e]
/-- A set table's shape. -/
structure Shape (m n : Nat) (s : List Bool × List (List Bool)) : Prop where
  e : s.1.length = n
  f : s.2.length = n
  rows : ∀ (i : Nat) (row : List Bool), s.2[i]? = some row → row.length = m
theorem Shape.init (m n : Nat) : Shape m n (initS m n) := ⟨by simp [initS], by simp [initS], fun i row h => by simp [initS, List.getElem?_replicate] at h; rw [← h.2]; simp⟩
theorem Shape.step {m n : Nat} {s : List Bool × List (List Bool)} (h : Shape m n s) (q : Rule) (hq : q.left.toNat < n) : Shape m n (stepR m q s) := by
  refine ⟨?_, by simp [stepR, h.f], fun i row hi => ?_⟩
  · simp only [stepR]; split <;> simp [h.e]
  · simp only [stepR, List.getElem?_set] at hi
    split at hi
    · split at hi
      · simp at hi
        subst hi
        rw [orRow_len]
        have h1 : q.left.toNat < s.2.length := by rw [h.f]; exact hq
        have h2 := h.rows _ _ (List.getElem?_eq_getElem h1)
        rw [List.getElem?_eq_getElem h1]
        exact h2
      · simp at hi
    · exact h.rows i row hi
theorem stepR_falses {m n : Nat} {s : List Bool × List (List Bool)} (h : Shape m n s) (q : Rule) (hq : q.left.toNat < n) : falses (stepR m q s) ≤ falses s ∧ (stepR m q s ≠ s → falses (stepR m q s) < falses s) := by
  obtain ⟨e, f⟩ := s
  have he : q.left.toNat < e.length := by have := h.e; simp at this; omega
  have hf : q.left.toNat < f.length := by have := h.f; simp at this; omega
  obtain ⟨ev, hev⟩ : ∃ v, e[q.left.toNat]? = some v := ⟨_, List.getElem?_eq_getElem he⟩
  obtain ⟨row, hrow⟩ : ∃ v, f[q.left.toNat]? = some v := ⟨_, List.getElem?_eq_getElem hf⟩
  have hgd : f.getD q.left.toNat [] = row := by rw [List.getD_eq_getElem?_getD, hrow]; rfl
  generalize hof : ofFrom e f (List.replicate m false) q.right = o
  have hs : stepR m q (e, f) = (if o.2 then e.set q.left.toNat true else e, f.set q.left.toNat (orRow row o.1)) := by simp only [stepR, hof, hgd]
  have hc := orRow_cnt row o.1
  have h1 := sum_set (f.map fun r => r.count false) q.left.toNat (row.count false) ((orRow row o.1).count false) (by rw [List.getElem?_map, hrow]; rfl)
  have h2 : (f.set q.left.toNat (orRow row o.1)).map (fun r => r.count false) = (f.map fun r => r.count false).set q.left.toNat ((orRow row o.1).count false) := by rw [List.map_set]
  rw [hs]
  simp only [falses, h2]
  have hrow' : orRow row o.1 = row → f.set q.left.toNat (orRow row o.1) = f := fun e => by rw [e]; exact set_id hrow
  by_cases ho : o.2 = true
  · rw [if_pos ho]
    cases ev
    · have h3 := count_set e _ hev
      exact ⟨by omega, fun _ => by omega⟩
    · rw [set_id hev]
      refine ⟨by omega, fun hne => ?_⟩
      have := hc.2 (fun e' => hne (by rw [hrow' e']))
      omega
  · rw [if_neg ho]
    refine ⟨by omega, fun hne => ?_⟩
    have := hc.2 (fun e' => hne (by rw [hrow' e']))
    omega
theorem closed_of {g : Gram} {m : Nat} {e : List Bool} {f : List (List Bool)} (hs : Shape m g.nons.toNat (e, f)) (hl : ∀ q ∈ g.rules, q.left.toNat < g.nons.toNat) (h : ∀ q ∈ g.rules, stepR m q (e, f) = (e, f)) : ClosedS g m e f := by
  refine ⟨fun n hn => ?_, fun q hq j hj => ?_, fun q hq ho => ?_⟩
  · have h1 : n < f.length := by have := hs.f; simp at this; omega
    rw [List.getD_eq_getElem?_getD, List.getElem?_eq_getElem h1]
    exact hs.rows n _ (List.getElem?_eq_getElem h1)
  · have h1 : q.left.toNat < f.length := by have := hs.f; have := hl q hq; simp at *; omega
    have h2 := congrArg (fun s => s.2[q.left.toNat]?) (h q hq)
    simp only [stepR, List.getElem?_set] at h2
    rw [if_pos trivial, if_pos h1] at h2
    rw [List.getD_eq_getElem?_getD, ← h2]
    simp only [Option.getD_some]
    refine orRow_right _ _ _ ?_ hj
    rw [ofFrom_len, List.length_replicate, List.getD_eq_getElem?_getD, List.getElem?_eq_getElem h1]
    exact hs.rows _ _ (List.getElem?_eq_getElem h1)
  · have h1 : q.left.toNat < e.length := by have := hs.e; have := hl q hq; simp at *; omega
    have h2 := congrArg (fun s => s.1) (h q hq)
    simp only [stepR] at h2
    rw [if_pos ho] at h2
    rw [← h2, List.getD_eq_getElem?_getD, List.getElem?_set, if_pos rfl, if_pos h1]
    rfl
end Go.Proofs.Ytecofoilghdedaa

/- The index of the first element that a predicate takes; a function's number that is entered by a call through a value. -/
namespace Go.Proofs.Ytecofoilghdedaa
open Go.RowKit

def idxI {α : Type} (p : α → Bool) (xs : List α) : Int := if xs.any p then (xs.findIdx p : Nat) else -1
theorem idxI_hit {α : Type} {p : α → Bool} {xs : List α} {k : Nat} {x : α} (hx : xs[k]? = some x) (hp : p x = true) (hno : ∀ y ∈ xs.take k, p y = false) : idxI p xs = k := by
  have hlt := (List.getElem?_eq_some_iff.1 hx).1
  have hm : x ∈ xs := List.mem_of_getElem? hx
  have ha : xs.any p = true := List.any_eq_true.2 ⟨x, hm, hp⟩
  rw [idxI, if_pos ha]
  congr 1
  have e : xs = xs.take k ++ x :: xs.drop (k + 1) := by rw [← drop_cons hx, List.take_append_drop]
  have h1 : (xs.take k).length = k := by simp; omega
  rw [e, List.findIdx_append, if_neg (by rw [h1]; intro h; have := List.findIdx_lt_length.1 (by rw [h1]; exact h : (xs.take k).findIdx p < (xs.take k).length); obtain ⟨y, hy, hpy⟩ := this; rw [hno y hy] at hpy; cases hpy)]
  rw [List.findIdx_cons, hp, h1]; simp
theorem idxI_none {α : Type} {p : α → Bool} {xs : List α} (hno : ∀ y ∈ xs, p y = false) : idxI p xs = -1 := by
  rw [idxI, if_neg]
  intro h
  obtain ⟨y, hy, hp⟩ := List.any_eq_true.1 h
  rw [hno y hy] at hp; cases hp
theorem idxI_nonneg {α : Type} (p : α → Bool) (xs : List α) : decide (0 ≤ idxI p xs) = xs.any p := by
  unfold idxI; split
  · rename_i h; rw [h]; simp
  · rename_i h; simp only [Bool.not_eq_true] at h; rw [h]; rfl
def IsGo (F : Nat) : Prop := ∀ (args : Array Value) (W : World), (callFunc F args).run Try.prog W = .ok (.enter F args) W
theorem isGo_of {F : Nat} {fn : Func} (hf : Try.prog.funcs[F]? = some fn) (h1 : (fn.name == "runtime.NumGoroutine") = false) (h2 : fn.body.isNone = false) : IsGo F := by
  intro args W
  have h1' : ¬ fn.name = "runtime.NumGoroutine" := by simpa using h1
  have h2' : ¬ fn.body = none := by intro e; rw [e] at h2; cases h2
  simp [callFunc, program, Sem.run, hf, h1', h2']

end Go.Proofs.Ytecofoilghdedaa

/- What useful.lengths and useful.reached compute: rounds over the rules until nothing turns; what a fixed point is good for. No program is named here. -/
namespace Go.Proofs.Ytecofoilghdedaa
open Go.RowKit
set_option linter.unusedVariables false

/-- The length of a right side, from a sum on; -1 where a part has none. -/
def sumR (l : List Int) : Int → List Sym → Int
  | a, [] => a
  | a, s :: ss => sumR l (if s.term = true ∧ 0 ≤ a then a + 1 else if 0 ≤ a ∧ 0 ≤ l.getD s.n.toNat 0 ∧ s.term = false then a + l.getD s.n.toNat 0 else -1) ss
/-- All parts have a length. -/
def useB (l : List Int) (q : Rule) : Bool := !(q.right.any fun s => !s.term && decide (l.getD s.n.toNat 0 < 0))
def lenStep (l : List Int) (q : Rule) : List Int :=
  if 0 ≤ sumR l 0 q.right ∧ (l.getD q.left.toNat 0 < 0 ∨ sumR l 0 q.right < l.getD q.left.toNat 0) then l.set q.left.toNat (sumR l 0 q.right) else l
def lenPass (rs : List Rule) (l : List Int) : List Int := rs.foldl lenStep l
def lenIter (rs : List Rule) : Nat → List Int → List Int
  | 0, l => l
  | k + 1, l => lenPass rs (lenIter rs k l)
def lenInit (n : Nat) : List Int := List.replicate n (-1)

def pw (k : Nat) : Nat := 4 ^ k
theorem pw_mono {a b : Nat} (h : a ≤ b) : pw a ≤ pw b := Nat.pow_le_pow_right (by omega) h
theorem pw_pos (a : Nat) : 1 ≤ pw a := pw_mono (Nat.zero_le a)
theorem pw_succ (a : Nat) : pw (a + 1) = 4 * pw a := by unfold pw; rw [Nat.pow_succ]; omega
theorem pw_ten : pw 10 = 1048576 := by decide
def cntN (l : List Int) : Nat := l.countP fun x => decide (0 ≤ x)
/-- The table of lengths on the way. -/
structure LShape (n : Nat) (l : List Int) : Prop where
  len : l.length = n
  low : ∀ x ∈ l, -1 ≤ x
  high : ∀ x ∈ l, x ≤ (pw (cntN l) : Int)

theorem LShape.cnt {n : Nat} {l : List Int} (h : LShape n l) : cntN l ≤ n := by have := List.countP_le_length (p := fun x : Int => decide (0 ≤ x)) (l := l); unfold cntN; have := h.len; omega
theorem LShape.init (n : Nat) : LShape n (lenInit n) := ⟨by simp [lenInit], fun x hx => by simp [lenInit] at hx; omega, fun x hx => by simp [lenInit] at hx; have := pw_pos (cntN (lenInit n)); omega⟩
theorem LShape.bound {n : Nat} {l : List Int} (h : LShape n l) (hn : n ≤ 10) : ∀ x ∈ l, -1 ≤ x ∧ x ≤ 1048576 := fun x hx => by
  refine ⟨h.low x hx, ?_⟩
  have h1 := h.high x hx
  have h2 := pw_mono (show cntN l ≤ 10 by have := h.cnt; omega)
  have h3 := pw_ten
  omega
theorem LShape.get {n : Nat} {l : List Int} (h : LShape n l) (k : Nat) : -1 ≤ l.getD k 0 ∧ l.getD k 0 ≤ (pw (cntN l) : Int) := by
  rw [List.getD_eq_getElem?_getD]
  cases hk : l[k]? with
  | none => have := pw_pos (cntN l); simp
  | some x => exact ⟨h.low x (List.mem_of_getElem? hk), h.high x (List.mem_of_getElem? hk)⟩

theorem sumR_neg (l : List Int) : ∀ (ss : List Sym) (a : Int), a < 0 → sumR l a ss = (if ss = [] then a else -1)
  | [], a, _ => by simp [sumR]
  | s :: ss, a, h => by
    rw [sumR, if_neg (by omega), if_neg (by omega), sumR_neg l ss (-1) (by omega)]
    split <;> simp
/-- One part's share. -/
def partR (l : List Int) (s : Sym) : Int := if s.term then 1 else l.getD s.n.toNat 0
theorem sumR_cons (l : List Int) (s : Sym) (ss : List Sym) (a : Int) (ha : 0 ≤ a) : sumR l a (s :: ss) = if 0 ≤ partR l s then sumR l (a + partR l s) ss else -1 := by
  rw [sumR]
  unfold partR
  cases hs : s.term
  · simp only [Bool.false_eq_true, false_and, if_false, and_true]
    by_cases h : 0 ≤ l.getD s.n.toNat 0
    · rw [if_pos ⟨ha, h⟩, if_pos h]
    · rw [if_neg (by omega), if_neg h, sumR_neg l ss _ (by omega)]; split <;> rfl
  · simp [ha]
theorem sumR_up (l : List Int) (B : Int) (hB : 1 ≤ B) (hl : ∀ k, l.getD k 0 ≤ B) : ∀ (ss : List Sym) (a : Int), sumR l a ss ≤ (if a < 0 then 0 else a) + B * ss.length
  | [], a => by simp [sumR]; split <;> omega
  | s :: ss, a => by
    have e : B * ((s :: ss).length : Int) = B * (ss.length : Int) + B := by simp [Int.mul_add]
    by_cases ha : a < 0
    · rw [sumR_neg l _ a ha]
      simp
      have : 0 ≤ B * ((ss.length : Int) + 1) := Int.mul_nonneg (by omega) (by omega)
      rw [if_pos ha]; omega
    · rw [sumR_cons l s ss a (by omega), if_neg ha, e]
      have hp : partR l s ≤ B := by unfold partR; split; omega; exact hl _
      have hm : 0 ≤ B * (ss.length : Int) := Int.mul_nonneg (by omega) (by omega)
      split
      · rename_i h0
        have := sumR_up l B hB hl ss (a + partR l s)
        rw [if_neg (by omega)] at this
        omega
      · omega
theorem sumR_low (l : List Int) : ∀ (ss : List Sym) (a : Int), 0 ≤ a → -1 ≤ sumR l a ss
  | [], a, h => by simp [sumR]; omega
  | s :: ss, a, h => by
    rw [sumR_cons l s ss a h]
    split
    · exact sumR_low l ss _ (by omega)
    · omega
/-- A right side has a length just if all its parts have. -/
theorem sumR_nonneg (l : List Int) : ∀ (ss : List Sym) (a : Int), 0 ≤ a → (0 ≤ sumR l a ss ↔ ∀ s ∈ ss, s.term = false → 0 ≤ l.getD s.n.toNat 0)
  | [], a, h => by simp [sumR, h]
  | s :: ss, a, h => by
    rw [sumR_cons l s ss a h]
    by_cases hp : 0 ≤ partR l s
    · rw [if_pos hp, sumR_nonneg l ss _ (by omega)]
      simp only [List.mem_cons, forall_eq_or_imp]
      constructor
      · exact fun h2 => ⟨fun hs => by unfold partR at hp; rw [hs] at hp; simpa using hp, h2⟩
      · exact fun h2 => h2.2
    · rw [if_neg hp]
      constructor
      · intro h; omega
      · intro h2
        exfalso
        apply hp
        unfold partR
        cases hs : s.term
        · simpa using h2 s (by simp) hs
        · simp
theorem useB_iff (l : List Int) (q : Rule) : useB l q = true ↔ ∀ s ∈ q.right, s.term = false → 0 ≤ l.getD s.n.toNat 0 := by
  unfold useB
  rw [Bool.not_eq_true', ← Bool.not_eq_true, List.any_eq_true]
  constructor
  · intro h s hs ht
    false_or_by_contra
    rename_i hneg
    exact h ⟨s, hs, by simp only [ht, Bool.not_false, Bool.true_and, decide_eq_true_eq]; omega⟩
  · rintro h ⟨s, hs, hp⟩
    simp at hp
    have := h s hs hp.1
    rw [List.getD_eq_getElem?_getD] at this
    omega

theorem countP_set_up {p : Int → Bool} : ∀ (l : List Int) (k : Nat) (x y : Int), l[k]? = some x → p y = true → (l.set k y).countP p = l.countP p + (if p x then 0 else 1)
  | [], k, x, y, h, _ => by simp at h
  | a :: l, 0, x, y, h, hy => by
    simp at h; subst h
    simp only [List.set_cons_zero, List.countP_cons, hy, if_true]
    split <;> omega
  | a :: l, k + 1, x, y, h, hy => by
    have := countP_set_up l k x y (by simpa using h) hy
    simp only [List.set_cons_succ, List.countP_cons, this]
    omega
theorem LShape.step {n : Nat} {l : List Int} (h : LShape n l) (q : Rule) (hq : q.left.toNat < n) (hr : q.right.length ≤ 4) : LShape n (lenStep l q) := by
  unfold lenStep
  split
  · rename_i hc
    obtain ⟨x, hx⟩ := get_some (show q.left.toNat < l.length by rw [h.len]; exact hq)
    have hxd : l.getD q.left.toNat 0 = x := by rw [List.getD_eq_getElem?_getD, hx]; rfl
    rw [hxd] at hc
    have hu := sumR_up l (pw (cntN l) : Int) (by have := pw_pos (cntN l); omega) (fun k => (h.get k).2) q.right 0
    have hcn := countP_set_up (p := fun x : Int => decide (0 ≤ x)) l q.left.toNat x (sumR l 0 q.right) hx (by simpa using hc.1)
    have hle : cntN l ≤ cntN (l.set q.left.toNat (sumR l 0 q.right)) := by unfold cntN; omega
    have hm := pw_mono hle
    have hp := pw_pos (cntN l)
    refine ⟨by simp [h.len], fun y hy => ?_, fun y hy => ?_⟩
    · rcases List.mem_or_eq_of_mem_set hy with hy | rfl
      · exact h.low y hy
      · omega
    · rcases List.mem_or_eq_of_mem_set hy with hy | rfl
      · have := h.high y hy; omega
      · by_cases hx0 : 0 ≤ x
        · have := h.high x (List.mem_of_getElem? hx); omega
        · have hcn2 : cntN (l.set q.left.toNat (sumR l 0 q.right)) = cntN l + 1 := by unfold cntN; rw [hcn]; simp [hx0]
          rw [hcn2, pw_succ]
          have h4 : (pw (cntN l) : Int) * (q.right.length : Int) ≤ (pw (cntN l) : Int) * 4 := Int.mul_le_mul_of_nonneg_left (by omega) (by omega)
          simp at hu
          omega
  · exact h
theorem LShape.pass {n : Nat} : ∀ (rs : List Rule) (l : List Int), LShape n l → (∀ q ∈ rs, q.left.toNat < n ∧ q.right.length ≤ 4) → LShape n (lenPass rs l)
  | [], l, h, _ => h
  | q :: rs, l, h, hr => LShape.pass rs (lenStep l q) (h.step q (hr q (by simp)).1 (hr q (by simp)).2) (fun x hx => hr x (by simp [hx]))

/-- What is left to fall. -/
def fuelI (x : Int) : Nat := if x < 0 then 1048577 else x.toNat
def lenFuel (l : List Int) : Nat := (l.map fuelI).sum
theorem lsum_set : ∀ (l : List Nat) (i x y : Nat), l[i]? = some x → (l.set i y).sum + x = l.sum + y
  | [], _, _, _, h => by simp at h
  | a :: l, 0, x, y, h => by simp at h; subst h; simp; omega
  | a :: l, i + 1, x, y, h => by
    have := lsum_set l i x y (by simpa using h)
    simp only [List.set_cons_succ, List.sum_cons]
    omega
theorem lenStep_fuel {n : Nat} {l : List Int} (h : LShape n l) (hn : n ≤ 10) (q : Rule) (hq : q.left.toNat < n) (hr : q.right.length ≤ 4) : lenStep l q = l ∨ lenFuel (lenStep l q) < lenFuel l := by
  have h2 := (h.step q hq hr).bound hn
  obtain ⟨x, hx⟩ := get_some (show q.left.toNat < l.length by rw [h.len]; exact hq)
  have hxd : l.getD q.left.toNat 0 = x := by rw [List.getD_eq_getElem?_getD, hx]; rfl
  unfold lenStep at h2 ⊢
  rw [hxd] at h2 ⊢
  split
  · rename_i hc
    rw [if_pos hc] at h2
    right
    have hl : q.left.toNat < l.length := (List.getElem?_eq_some_iff.1 hx).1
    have hv := h2 (sumR l 0 q.right) (List.mem_iff_getElem.2 ⟨q.left.toNat, by simpa using hl, by simp⟩)
    have hs := lsum_set (l.map fuelI) q.left.toNat (fuelI x) (fuelI (sumR l 0 q.right)) (by rw [List.getElem?_map, hx]; rfl)
    have hlt : fuelI (sumR l 0 q.right) < fuelI x := by
      unfold fuelI
      rw [if_neg (by omega)]
      split <;> omega
    unfold lenFuel
    rw [List.map_set]
    omega
  · left; rfl

/-- A table that no rule's step turns. -/
structure LFix (g : Gram) (n : Nat) (l : List Int) : Prop where
  shape : LShape n l
  iter : ∃ k, l = lenIter g.rules k (lenInit n)
  fix : ∀ q ∈ g.rules, lenStep l q = l
theorem LFix.closed {g : Gram} {n : Nat} {l : List Int} (h : LFix g n l) {q : Rule} (hq : q ∈ g.rules) (hl : q.left.toNat < n) (hu : useB l q = true) : 0 ≤ l.getD q.left.toNat 0 := by
  have hs := (sumR_nonneg l q.right 0 (by omega)).2 ((useB_iff l q).1 hu)
  have hf := h.fix q hq
  have hlt : q.left.toNat < l.length := by rw [h.shape.len]; exact hl
  unfold lenStep at hf
  false_or_by_contra
  rename_i hneg
  rw [if_pos ⟨hs, .inl (by omega)⟩] at hf
  have h2 := congrArg (fun z : List Int => z.getD q.left.toNat 0) hf
  simp only [List.getD_eq_getElem?_getD, List.getElem?_set, if_true, if_pos hlt] at h2
  rw [List.getD_eq_getElem?_getD] at hneg
  simp at h2
  omega
theorem lenStep_mono (l : List Int) (q : Rule) (k : Nat) (h : 0 ≤ l.getD k 0) (hk : k < l.length) : 0 ≤ (lenStep l q).getD k 0 := by
  unfold lenStep
  split
  · rename_i hc
    rw [List.getD_eq_getElem?_getD, List.getElem?_set]
    split
    · split
      · simpa using hc.1
      · simp
    · rw [List.getD_eq_getElem?_getD] at h; exact h
  · exact h

/-- The terminals and nonterminals of a rule are in range. -/
def RulesIn (g : Gram) (n : Nat) : Prop := ∀ q ∈ g.rules, 0 ≤ q.left ∧ q.left.toNat < n ∧ q.right.length ≤ 4 ∧ ∀ s ∈ q.right, 0 ≤ s.n ∧ (s.term = false → s.n.toNat < n)

mutual
/-- A tree's root has a word. -/
theorem vt_len {g : Gram} {n : Nat} {l : List Int} (h : LFix g n l) (hr : RulesIn g n) : ∀ (t : Tree) (s : Sym), vt g t s → s.term = false → 0 ≤ l.getD s.n.toNat 0
  | ⟨r, t, ks⟩, s, hv, hs => by
    unfold vt at hv
    rw [if_neg (by simp [hs])] at hv
    obtain ⟨_, _, q, hq, hql, hks⟩ := hv
    have hm := List.mem_of_getElem? hq
    rw [← hql]
    exact h.closed hm (hr q hm).2.1 ((useB_iff l q).2 (vts_len' h hr ks q.right hks))
theorem vts_len' {g : Gram} {n : Nat} {l : List Int} (h : LFix g n l) (hr : RulesIn g n) : ∀ (ks : List Tree) (ss : List Sym), vts g ks ss → ∀ s ∈ ss, s.term = false → 0 ≤ l.getD s.n.toNat 0
  | [], [], _, s, hs, _ => by simp at hs
  | [], _ :: _, hv, _, _, _ => by unfold vts at hv; exact hv.elim
  | _ :: _, [], hv, _, _, _ => by unfold vts at hv; exact hv.elim
  | k :: ks, x :: ss, hv, s, hs, ht => by
    unfold vts at hv
    rcases List.mem_cons.1 hs with rfl | hs
    · exact vt_len h hr k s hv.1 ht
    · exact vts_len' h hr ks ss hv.2 s hs ht
end

/-! ### Reached nonterminals -/
def symStep (s : List Bool) (x : Sym) : List Bool := if x.term then s else s.set x.n.toNat true
def reachStep (p : Rule → Bool) (s : List Bool) (q : Rule) : List Bool := if s.getD q.left.toNat false && p q then q.right.foldl symStep s else s
def reachPass (p : Rule → Bool) (rs : List Rule) (s : List Bool) : List Bool := rs.foldl (reachStep p) s
def reachIter (p : Rule → Bool) (rs : List Rule) : Nat → List Bool → List Bool
  | 0, s => s
  | k + 1, s => reachPass p rs (reachIter p rs k s)
def reachInit (n s0 : Nat) : List Bool := (List.replicate n false).set s0 true

theorem rcount_set : ∀ (l : List Bool) (i : Nat), (l.set i true).count false + (if l[i]? = some false then 1 else 0) = l.count false
  | [], i => by simp
  | a :: l, 0 => by cases a <;> simp
  | a :: l, i + 1 => by
    have := rcount_set l i
    simp only [List.set_cons_succ, List.count_cons, List.getElem?_cons_succ]
    omega
theorem set_true_id {l : List Bool} {i : Nat} (h : ¬ l[i]? = some false) : l.set i true = l := by
  apply List.ext_getElem?
  intro j
  rw [List.getElem?_set]
  split
  · rename_i e
    subst e
    split
    · rename_i hl
      rw [List.getElem?_eq_getElem hl] at h ⊢
      cases hb : l[i]
      · rw [hb] at h; exact absurd rfl h
      · rfl
    · rename_i hl
      rw [List.getElem?_eq_none (by omega)]
  · rfl
theorem symStep_len (s : List Bool) (x : Sym) : (symStep s x).length = s.length := by unfold symStep; split <;> simp
theorem symStep_count (s : List Bool) (x : Sym) : symStep s x = s ∨ (symStep s x).count false < s.count false := by
  unfold symStep
  split
  · exact .inl rfl
  · by_cases h : s[x.n.toNat]? = some false
    · right; have := rcount_set s x.n.toNat; rw [if_pos h] at this; omega
    · exact .inl (set_true_id h)
theorem symFold_len : ∀ (xs : List Sym) (s : List Bool), (xs.foldl symStep s).length = s.length
  | [], _ => rfl
  | x :: xs, s => by rw [List.foldl_cons, symFold_len xs, symStep_len]
theorem symFold_count : ∀ (xs : List Sym) (s : List Bool), xs.foldl symStep s = s ∨ (xs.foldl symStep s).count false < s.count false
  | [], s => .inl rfl
  | x :: xs, s => by
    rw [List.foldl_cons]
    rcases symStep_count s x with h | h
    · rw [h]; exact symFold_count xs s
    · rcases symFold_count xs (symStep s x) with h2 | h2
      · rw [h2]; exact .inr h
      · exact .inr (by omega)
theorem reachStep_len (p : Rule → Bool) (s : List Bool) (q : Rule) : (reachStep p s q).length = s.length := by unfold reachStep; split; exact symFold_len _ _; rfl
theorem reachStep_count (p : Rule → Bool) (s : List Bool) (q : Rule) : reachStep p s q = s ∨ (reachStep p s q).count false < s.count false := by
  unfold reachStep; split; exact symFold_count _ _; exact .inl rfl
theorem symStep_keep (s : List Bool) (x : Sym) (k : Nat) (h : s[k]? = some true) : (symStep s x)[k]? = some true := by
  unfold symStep
  split
  · exact h
  · rw [List.getElem?_set]
    split
    · rw [if_pos (by rename_i e; rw [e]; exact (List.getElem?_eq_some_iff.1 h).1)]
    · exact h
theorem symFold_keep : ∀ (xs : List Sym) (s : List Bool) (k : Nat), s[k]? = some true → (xs.foldl symStep s)[k]? = some true
  | [], _, _, h => h
  | x :: xs, s, k, h => symFold_keep xs _ k (symStep_keep s x k h)
theorem symFold_in : ∀ (xs : List Sym) (s : List Bool) (x : Sym), x ∈ xs → x.term = false → x.n.toNat < s.length → (xs.foldl symStep s)[x.n.toNat]? = some true
  | [], _, _, h, _, _ => by simp at h
  | y :: xs, s, x, h, ht, hl => by
    rw [List.foldl_cons]
    rcases List.mem_cons.1 h with rfl | h
    · apply symFold_keep
      unfold symStep
      rw [ht]
      simp [hl]
    · exact symFold_in xs _ x h ht (by rw [symStep_len]; exact hl)
/-- A row that no rule's step turns. -/
structure RFix (g : Gram) (p : Rule → Bool) (n : Nat) (s : List Bool) : Prop where
  len : s.length = n
  start : s[g.start.toNat]? = some true
  iter : ∃ k, s = reachIter p g.rules k (reachInit n g.start.toNat)
  fix : ∀ q ∈ g.rules, reachStep p s q = s
theorem RFix.closed {g : Gram} {p : Rule → Bool} {n : Nat} {s : List Bool} (h : RFix g p n s) {q : Rule} (hq : q ∈ g.rules) (hl : s[q.left.toNat]? = some true) (hp : p q = true) {x : Sym} (hx : x ∈ q.right) (ht : x.term = false) (hn : x.n.toNat < n) : s[x.n.toNat]? = some true := by
  have hf := h.fix q hq
  unfold reachStep at hf
  rw [List.getD_eq_getElem?_getD, hl, hp] at hf
  simp at hf
  rw [← hf]
  exact symFold_in q.right s x hx ht (by rw [h.len]; exact hn)

/-- The rules that remain. -/
def stayB (l : List Int) (s : List Bool) (q : Rule) : Bool := s.getD q.left.toNat false && useB l q
mutual
/-- All rules of a tree are among some numbers. -/
def allIn (rs : List Int) : Tree → Bool
  | ⟨r, _, ks⟩ => (decide (r < 0) || decide (r ∈ rs)) && allsIn rs ks
def allsIn (rs : List Int) : List Tree → Bool
  | [] => true
  | k :: ks => allIn rs k && allsIn rs ks
end
mutual
theorem vt_stay {g : Gram} {n : Nat} {l : List Int} {s : List Bool} (hl : LFix g n l) (hs : RFix g (useB l) n s) (hr : RulesIn g n) (rs : List Int) (hrs : ∀ (i : Nat) (q : Rule), g.rules[i]? = some q → stayB l s q = true → (i : Int) ∈ rs) :
    ∀ (t : Tree) (x : Sym), vt g t x → (x.term = false → s[x.n.toNat]? = some true) → allIn rs t = true
  | ⟨r, t, ks⟩, x, hv, hx => by
    unfold vt at hv
    unfold allIn
    cases hxt : x.term
    · rw [if_neg (by simp [hxt])] at hv
      obtain ⟨_, hr0, q, hq, hql, hks⟩ := hv
      have hm := List.mem_of_getElem? hq
      have hin := hx hxt
      rw [← hql] at hin
      have hu : useB l q = true := (useB_iff l q).2 (vts_len' hl hr ks q.right hks)
      have hst : stayB l s q = true := by unfold stayB; rw [List.getD_eq_getElem?_getD, hin, hu]; rfl
      have h1 := hrs r.toNat q hq hst
      rw [show ((r.toNat : Nat) : Int) = r from by omega] at h1
      rw [vts_stay hl hs hr rs hrs ks q.right hks (fun y hy ht => hs.closed hm hin hu hy ht ((hr q hm).2.2.2 y hy |>.2 ht))]
      simp [h1]
    · rw [if_pos hxt] at hv
      obtain ⟨rfl, _, rfl⟩ := hv
      simp [allsIn]
theorem vts_stay {g : Gram} {n : Nat} {l : List Int} {s : List Bool} (hl : LFix g n l) (hs : RFix g (useB l) n s) (hr : RulesIn g n) (rs : List Int) (hrs : ∀ (i : Nat) (q : Rule), g.rules[i]? = some q → stayB l s q = true → (i : Int) ∈ rs) :
    ∀ (ks : List Tree) (ss : List Sym), vts g ks ss → (∀ x ∈ ss, x.term = false → s[x.n.toNat]? = some true) → allsIn rs ks = true
  | [], [], _, _ => by simp [allsIn]
  | [], _ :: _, hv, _ => by unfold vts at hv; exact hv.elim
  | _ :: _, [], hv, _ => by unfold vts at hv; exact hv.elim
  | k :: ks, x :: ss, hv, h => by
    unfold vts at hv
    unfold allsIn
    rw [vt_stay hl hs hr rs hrs k x hv.1 (h x (by simp)), vts_stay hl hs hr rs hrs ks ss hv.2 (fun y hy => h y (by simp [hy]))]
    rfl
end
end Go.Proofs.Ytecofoilghdedaa

/- The table of lengths that rounds in place end in has a rank: each length is the sum of lengths of smaller rank. No program is named here. -/
namespace Go.Proofs.Ytecofoilghdedaa
open Go.RowKit
set_option linter.unusedVariables false

/-- Parts that are not longer give a sum that is not greater; one that is shorter, a smaller one. -/
theorem sumR_less {l l' : List Int} : ∀ (ss : List Sym) (a a' : Int), 0 ≤ a' → a' ≤ a → (∀ s ∈ ss, s.term = false → 0 ≤ l'.getD s.n.toNat 0 ∧ l'.getD s.n.toNat 0 ≤ l.getD s.n.toNat 0) →
    0 ≤ sumR l' a' ss ∧ sumR l' a' ss + (a - a') ≤ sumR l a ss ∧ ((∃ s ∈ ss, s.term = false ∧ l'.getD s.n.toNat 0 < l.getD s.n.toNat 0) → sumR l' a' ss + (a - a') < sumR l a ss)
  | [], a, a', h0, h1, _ => by simp [sumR]; omega
  | s :: ss, a, a', h0, h1, h => by
    have hp : 0 ≤ partR l' s ∧ partR l' s ≤ partR l s := by
      unfold partR
      cases hs : s.term
      · simpa [hs] using h s (by simp) hs
      · simp
    obtain ⟨i1, i2, i3⟩ := sumR_less ss (a + partR l s) (a' + partR l' s) (by omega) (by omega) (fun x hx => h x (by simp [hx]))
    rw [sumR_cons l s ss a (by omega), sumR_cons l' s ss a' h0, if_pos hp.1, if_pos (show 0 ≤ partR l s by omega)]
    refine ⟨i1, by omega, ?_⟩
    rintro ⟨x, hx, ht, hlt⟩
    rcases List.mem_cons.1 hx with rfl | hx
    · have : partR l' x < partR l x := by unfold partR; rw [ht]; simpa using hlt
      omega
    · have := i3 ⟨x, hx, ht, hlt⟩
      omega

theorem sumR_same {l l' : List Int} : ∀ (ss : List Sym) (a : Int), (∀ s ∈ ss, s.term = false → l'.getD s.n.toNat 0 = l.getD s.n.toNat 0) → sumR l' a ss = sumR l a ss
  | [], a, _ => rfl
  | s :: ss, a, h => by
    unfold sumR
    rw [sumR_same ss _ (fun x hx => h x (by simp [hx]))]
    cases hs : s.term
    · rw [h s (by simp) hs]
    · simp
theorem sumR_from (l : List Int) : ∀ (ss : List Sym) (a : Int), 0 ≤ a → 0 ≤ sumR l a ss → a ≤ sumR l a ss
  | [], a, _, _ => Int.le_refl _
  | s :: ss, a, ha, h => by
    rw [sumR_cons l s ss a ha] at h ⊢
    split
    · rename_i hp
      rw [if_pos hp] at h
      have := sumR_from l ss (a + partR l s) (by omega) h
      omega
    · rename_i hp
      rw [if_neg hp] at h
      omega
theorem sumR_ge (l : List Int) : ∀ (ss : List Sym) (a : Int), 0 ≤ a → 0 ≤ sumR l a ss → ∀ s ∈ ss, s.term = false → l.getD s.n.toNat 0 ≤ sumR l a ss
  | s :: ss, a, ha, h, x, hx, ht => by
    rw [sumR_cons l s ss a ha] at h ⊢
    split
    · rename_i hp
      rw [if_pos hp] at h
      rcases List.mem_cons.1 hx with rfl | hx
      · have := sumR_from l ss (a + partR l x) (by omega) h
        have e : partR l x = l.getD x.n.toNat 0 := by unfold partR; rw [ht]; rfl
        omega
      · exact sumR_ge l ss (a + partR l s) (by omega) h x hx ht
    · rename_i hp
      rw [if_neg hp] at h
      omega

structure RankI (rs : List Rule) (l : List Int) (T : Nat → Nat) (top : Nat) : Prop where
  top : ∀ k, T k ≤ top
  how : ∀ x, x < l.length → 0 ≤ l.getD x 0 → ∃ q ∈ rs, q.left.toNat = x ∧ 0 ≤ sumR l 0 q.right ∧ sumR l 0 q.right ≤ l.getD x 0 ∧ (sumR l 0 q.right = l.getD x 0 → ∀ s ∈ q.right, s.term = false → T s.n.toNat < T x)

theorem RankI.init (rs : List Rule) (n : Nat) : RankI rs (lenInit n) (fun _ => 0) 0 :=
  ⟨fun _ => Nat.le_refl _, fun x hx h => by
    simp [lenInit] at hx
    simp [lenInit, List.getD_eq_getElem?_getD, hx] at h⟩
theorem getD_set {l : List Int} {i k : Nat} {v : Int} (hi : i < l.length) : (l.set i v).getD k 0 = if k = i then v else l.getD k 0 := by
  rw [List.getD_eq_getElem?_getD, List.getD_eq_getElem?_getD, List.getElem?_set]
  by_cases e : i = k
  · subst e; simp [hi]
  · rw [if_neg e, if_neg (fun h => e h.symm)]
theorem RankI.step {rs : List Rule} {l : List Int} {T : Nat → Nat} {top : Nat} (h : RankI rs l T top) (q : Rule) (hq : q ∈ rs) (hl : q.left.toNat < l.length) :
    ∃ T' top', RankI rs (lenStep l q) T' top' := by
  unfold lenStep
  split
  · rename_i hc
    obtain ⟨h0, hlt⟩ := hc
    have hparts := (sumR_nonneg l q.right 0 (Int.le_refl 0)).1 h0
    refine ⟨fun k => if k = q.left.toNat then top + 1 else T k, top + 1, fun k => ?_, fun x hx hx0 => ?_⟩
    · split
      · exact Nat.le_refl _
      · have := h.top k; omega
    · rw [List.length_set] at hx
      rw [getD_set hl] at hx0 ⊢
      by_cases e : x = q.left.toNat
      · subst e
        rw [if_pos rfl] at hx0 ⊢
        -- the rule itself: its left is not among its parts
        have hnot : ∀ s ∈ q.right, s.term = false → s.n.toNat ≠ q.left.toNat := by
          intro s hs ht es
          have h1 := hparts s hs ht
          rw [es] at h1
          have h2 := sumR_ge l q.right 0 (Int.le_refl 0) h0 s hs ht
          rw [es] at h2
          rcases hlt with h3 | h3 <;> omega
        have heq : sumR (l.set q.left.toNat (sumR l 0 q.right)) 0 q.right = sumR l 0 q.right := sumR_same q.right 0 (fun s hs ht => by rw [getD_set hl, if_neg (hnot s hs ht)])
        refine ⟨q, hq, rfl, by rw [heq]; exact h0, by rw [heq]; exact Int.le_refl _, fun _ s hs ht => ?_⟩
        rw [if_pos rfl, if_neg (hnot s hs ht)]
        have := h.top s.n.toNat
        omega
      · rw [if_neg e] at hx0 ⊢
        obtain ⟨p, hp, hpl, p0, p1, p2⟩ := h.how x hx hx0
        have hpp := (sumR_nonneg l p.right 0 (Int.le_refl 0)).1 p0
        obtain ⟨i1, i2, i3⟩ := sumR_less (l := l) (l' := l.set q.left.toNat (sumR l 0 q.right)) p.right 0 0 (Int.le_refl 0) (Int.le_refl 0) (fun s hs ht => by
          rw [getD_set hl]
          have h1 := hpp s hs ht
          split
          · rename_i es
            rw [es] at h1 ⊢
            rcases hlt with h3 | h3 <;> omega
          · omega)
        refine ⟨p, hp, hpl, i1, by omega, fun he s hs ht => ?_⟩
        rw [if_neg e]
        by_cases es : s.n.toNat = q.left.toNat
        · exfalso
          have h1 := hpp s hs ht
          have := i3 ⟨s, hs, ht, by rw [getD_set hl, if_pos es]; rw [es] at h1 ⊢; rcases hlt with h3 | h3 <;> omega⟩
          omega
        · rw [if_neg es]
          exact p2 (by omega) s hs ht
  · exact ⟨T, top, h⟩
end Go.Proofs.Ytecofoilghdedaa

/- What useful.Trim computes, and the plain law of UsefulOnce: in a trimmed grammar all nonterminals have a word and are reached. No program is named here. -/
namespace Go.Proofs.Ytecofoilghdedaa
open Go.RowKit
set_option linter.unusedVariables false

/-- A nonterminal's new number. -/
def toV (s : List Bool) (n : Nat) : Nat := if s.getD n false then (s.take n).count true else 0
def renSym (s : List Bool) (x : Sym) : Sym := if x.term then x else ⟨false, (toV s x.n.toNat : Nat)⟩
def trimRule (s : List Bool) (q : Rule) : Rule := ⟨(toV s q.left.toNat : Nat), q.right.map (renSym s)⟩
def trimG (g : Gram) (l : List Int) (s : List Bool) : Gram := ⟨g.terms, (s.count true : Nat), (toV s g.start.toNat : Nat), (g.rules.filter (stayB l s)).map (trimRule s)⟩

/-! Numbers of the true places. -/
theorem take_count_lt : ∀ (s : List Bool) (i j : Nat), i < j → s[i]? = some true → (s.take i).count true < (s.take j).count true
  | [], i, j, _, h => by simp at h
  | a :: s, 0, j + 1, _, h => by simp at h; subst h; simp
  | a :: s, i + 1, j + 1, hij, h => by
    have := take_count_lt s i j (by omega) (by simpa using h)
    simp only [List.take_succ_cons, List.count_cons]
    omega
theorem toV_lt {s : List Bool} {i : Nat} (h : s[i]? = some true) : toV s i < s.count true := by
  unfold toV
  rw [List.getD_eq_getElem?_getD, h]
  have hl := (List.getElem?_eq_some_iff.1 h).1
  have := take_count_lt s i s.length hl h
  rw [List.take_length] at this
  simpa using this
theorem toV_inj {s : List Bool} {i j : Nat} (hi : s[i]? = some true) (hj : s[j]? = some true) (h : toV s i = toV s j) : i = j := by
  unfold toV at h
  rw [List.getD_eq_getElem?_getD, hi, List.getD_eq_getElem?_getD, hj] at h
  simp at h
  rcases Nat.lt_trichotomy i j with hl | rfl | hl
  · have := take_count_lt s i j hl hi; omega
  · rfl
  · have := take_count_lt s j i hl hj; omega
theorem toV_onto : ∀ (s : List Bool) (k : Nat), k < s.count true → ∃ i, s[i]? = some true ∧ (s.take i).count true = k
  | [], k, h => by simp at h
  | false :: s, k, h => by
    obtain ⟨i, h1, h2⟩ := toV_onto s k (by simpa using h)
    exact ⟨i + 1, by simpa using h1, by simp [h2]⟩
  | true :: s, 0, h => ⟨0, rfl, by simp⟩
  | true :: s, k + 1, h => by
    obtain ⟨i, h1, h2⟩ := toV_onto s k (by simpa using h)
    exact ⟨i + 1, by simpa using h1, by simp [h2]⟩
theorem toV_ex {s : List Bool} {k : Nat} (h : k < s.count true) : ∃ i, s[i]? = some true ∧ toV s i = k := by
  obtain ⟨i, h1, h2⟩ := toV_onto s k h
  exact ⟨i, h1, by unfold toV; rw [List.getD_eq_getElem?_getD, h1]; simpa using h2⟩

/-! Derived nonterminals, reached nonterminals. -/
inductive Der (g : Gram) : Nat → Prop where
  | mk (q : Rule) (hq : q ∈ g.rules) (h : ∀ x ∈ q.right, x.term = false → Der g x.n.toNat) : Der g q.left.toNat
inductive Rea (g : Gram) (p : Rule → Bool) : Nat → Prop where
  | start : Rea g p g.start.toNat
  | step (q : Rule) (hq : q ∈ g.rules) (h : Rea g p q.left.toNat) (hp : p q = true) (x : Sym) (hx : x ∈ q.right) (ht : x.term = false) : Rea g p x.n.toNat

theorem getD_of {α : Type} {l : List α} {k : Nat} {x d : α} (h : l[k]? = some x) : l.getD k d = x := by rw [List.getD_eq_getElem?_getD, h]; rfl
theorem lenStep_der {g : Gram} {n : Nat} {l : List Int} (hl : l.length = n) (h : ∀ k, k < n → 0 ≤ l.getD k 0 → Der g k) (q : Rule) (hq : q ∈ g.rules) (hr : RulesIn g n) : ∀ k, k < n → 0 ≤ (lenStep l q).getD k 0 → Der g k := by
  intro k hk h0
  unfold lenStep at h0
  split at h0
  · rename_i hc
    by_cases e : q.left.toNat = k
    · subst e
      refine Der.mk q hq fun x hx ht => h _ ((hr q hq).2.2.2 x hx |>.2 ht) ?_
      exact (sumR_nonneg l q.right 0 (by omega)).1 hc.1 x hx ht
    · rw [List.getD_eq_getElem?_getD, List.getElem?_set, if_neg e, ← List.getD_eq_getElem?_getD] at h0
      exact h k hk h0
  · exact h k hk h0
theorem lenStep_len (l : List Int) (q : Rule) : (lenStep l q).length = l.length := by unfold lenStep; split <;> simp
theorem lenPass_len : ∀ (rs : List Rule) (l : List Int), (lenPass rs l).length = l.length
  | [], l => rfl
  | q :: rs, l => by show (lenPass rs (lenStep l q)).length = _; rw [lenPass_len rs, lenStep_len]
theorem lenPass_der {g : Gram} {n : Nat} (hr : RulesIn g n) : ∀ (rs : List Rule) (l : List Int), (∀ q ∈ rs, q ∈ g.rules) → l.length = n → (∀ k, k < n → 0 ≤ l.getD k 0 → Der g k) → ∀ k, k < n → 0 ≤ (lenPass rs l).getD k 0 → Der g k
  | [], l, _, _, h => h
  | q :: rs, l, hq, hl, h => lenPass_der hr rs (lenStep l q) (fun x hx => hq x (by simp [hx])) (by rw [lenStep_len, hl]) (lenStep_der hl h q (hq q (by simp)) hr)
theorem lenIter_der {g : Gram} {n : Nat} (hr : RulesIn g n) : ∀ (j : Nat), (lenIter g.rules j (lenInit n)).length = n ∧ ∀ k, k < n → 0 ≤ (lenIter g.rules j (lenInit n)).getD k 0 → Der g k
  | 0 => ⟨by simp [lenIter, lenInit], fun k hk h => by
    exfalso
    rw [lenIter, lenInit, List.getD_eq_getElem?_getD, List.getElem?_replicate, if_pos hk] at h
    simp at h⟩
  | j + 1 => by
    obtain ⟨h1, h2⟩ := lenIter_der hr j
    exact ⟨by rw [lenIter, lenPass_len, h1], lenPass_der hr g.rules _ (fun q h => h) h1 h2⟩
theorem LFix.der {g : Gram} {n : Nat} {l : List Int} (h : LFix g n l) (hr : RulesIn g n) {k : Nat} (hk : k < n) (h0 : 0 ≤ l.getD k 0) : Der g k := by
  obtain ⟨j, hj⟩ := h.iter
  rw [hj] at h0
  exact (lenIter_der hr j).2 k hk h0
theorem LFix.of_der {g : Gram} {n : Nat} {l : List Int} (h : LFix g n l) (hr : RulesIn g n) {k : Nat} (hd : Der g k) : 0 ≤ l.getD k 0 := by
  induction hd with
  | mk q hq _ ih => exact h.closed hq (hr q hq).2.1 ((useB_iff l q).2 ih)

theorem symFold_rea {g : Gram} {p : Rule → Bool} (q : Rule) (hq : q ∈ g.rules) (hl : Rea g p q.left.toNat) (hp : p q = true) : ∀ (xs : List Sym) (s : List Bool), (∀ x ∈ xs, x ∈ q.right) → (∀ k : Nat, s[k]? = some true → Rea g p k) → ∀ k : Nat, (xs.foldl symStep s)[k]? = some true → Rea g p k
  | [], s, _, h => h
  | x :: xs, s, hx, h => symFold_rea q hq hl hp xs (symStep s x) (fun y hy => hx y (by simp [hy])) (fun k hk => by
    unfold symStep at hk
    split at hk
    · exact h k hk
    · rename_i ht
      rw [List.getElem?_set] at hk
      split at hk
      · rename_i e
        subst e
        exact Rea.step q hq hl hp x (hx x (by simp)) (by simpa using ht)
      · exact h k hk)
theorem reachPass_rea {g : Gram} {p : Rule → Bool} : ∀ (rs : List Rule) (s : List Bool), (∀ q ∈ rs, q ∈ g.rules) → (∀ k : Nat, s[k]? = some true → Rea g p k) → ∀ k : Nat, (reachPass p rs s)[k]? = some true → Rea g p k
  | [], s, _, h => h
  | q :: rs, s, hq, h => reachPass_rea rs (reachStep p s q) (fun x hx => hq x (by simp [hx])) (fun k hk => by
    unfold reachStep at hk
    split at hk
    · rename_i hc
      simp only [Bool.and_eq_true] at hc
      have hl : s[q.left.toNat]? = some true := by
        have := hc.1
        rw [List.getD_eq_getElem?_getD] at this
        cases hs : s[q.left.toNat]? with
        | none => rw [hs] at this; simp at this
        | some b => rw [hs] at this; simp at this; rw [this]
      exact symFold_rea q (hq q (by simp)) (h _ hl) hc.2 q.right s (fun x hx => hx) h k hk
    · exact h k hk)
theorem reachIter_rea {g : Gram} {p : Rule → Bool} {n : Nat} : ∀ (j : Nat) (k : Nat), (reachIter p g.rules j (reachInit n g.start.toNat))[k]? = some true → Rea g p k
  | 0, k, h => by
    rw [reachIter, reachInit, List.getElem?_set] at h
    split at h
    · rename_i e; subst e; exact Rea.start
    · rw [List.getElem?_replicate] at h
      split at h <;> simp at h
  | j + 1, k, h => reachPass_rea g.rules _ (fun q h => h) (reachIter_rea j) k h
theorem RFix.rea {g : Gram} {p : Rule → Bool} {n : Nat} {s : List Bool} (h : RFix g p n s) {k : Nat} (hk : s[k]? = some true) : Rea g p k := by
  obtain ⟨j, hj⟩ := h.iter
  rw [hj] at hk
  exact reachIter_rea j k hk
/-- What is reached through rules whose parts all have a word has a word. -/
theorem reached_len {g : Gram} {n : Nat} {l : List Int} {k : Nat} (h0 : 0 ≤ l.getD g.start.toNat 0) (h : Rea g (useB l) k) : 0 ≤ l.getD k 0 := by
  cases h with
  | start => exact h0
  | step q hq h hp x hx ht => exact (useB_iff l q).1 hp x hx ht

/-- What Trim works on and leaves. -/
structure TrimS (g : Gram) (n : Nat) (l : List Int) (s : List Bool) : Prop where
  lens : LFix g n l
  reach : RFix g (useB l) n s
  rules : RulesIn g n
  pos : 0 ≤ l.getD g.start.toNat 0

theorem getD_true {s : List Bool} {k : Nat} : s.getD k false = true ↔ s[k]? = some true := by
  rw [List.getD_eq_getElem?_getD]
  cases s[k]? with
  | none => simp
  | some b => simp
theorem TrimS.stay {g : Gram} {n : Nat} {l : List Int} {s : List Bool} (h : TrimS g n l s) {q : Rule} (hq : q ∈ g.rules) (hl : s[q.left.toNat]? = some true) (hu : useB l q = true) : trimRule s q ∈ (trimG g l s).rules := by
  unfold trimG
  refine List.mem_map.2 ⟨q, List.mem_filter.2 ⟨hq, ?_⟩, rfl⟩
  unfold stayB
  rw [getD_true.2 hl, hu]; rfl
theorem TrimS.parts {g : Gram} {n : Nat} {l : List Int} {s : List Bool} (h : TrimS g n l s) {r : Rule} (hr : r ∈ (trimG g l s).rules) : ∃ q ∈ g.rules, s[q.left.toNat]? = some true ∧ useB l q = true ∧ r = trimRule s q ∧ ∀ x ∈ q.right, x.term = false → s[x.n.toNat]? = some true := by
  obtain ⟨q, hq, rfl⟩ := List.mem_map.1 hr
  obtain ⟨hq, hs⟩ := List.mem_filter.1 hq
  unfold stayB at hs
  simp only [Bool.and_eq_true] at hs
  have hl := getD_true.1 hs.1
  exact ⟨q, hq, hl, hs.2, rfl, fun x hx ht => h.reach.closed hq hl hs.2 hx ht ((h.rules q hq).2.2.2 x hx |>.2 ht)⟩
theorem TrimS.rulesIn {g : Gram} {n : Nat} {l : List Int} {s : List Bool} (h : TrimS g n l s) : RulesIn (trimG g l s) (s.count true) := by
  intro r hr
  obtain ⟨q, hq, hl, hu, rfl, hx⟩ := h.parts hr
  refine ⟨by simp [trimRule], by simpa [trimRule] using toV_lt hl, by simpa [trimRule] using (h.rules q hq).2.2.1, fun y hy => ?_⟩
  obtain ⟨x, hxm, rfl⟩ := List.mem_map.1 hy
  unfold renSym
  split
  · rename_i ht
    exact ⟨((h.rules q hq).2.2.2 x hxm).1, fun h => by rw [ht] at h; cases h⟩
  · rename_i ht
    exact ⟨by simp, fun _ => by simpa using toV_lt (hx x hxm (by simpa using ht))⟩
/-- All nonterminals of a trimmed grammar have a word. -/
theorem TrimS.der {g : Gram} {n : Nat} {l : List Int} {s : List Bool} (h : TrimS g n l s) {k : Nat} (hd : Der g k) (hk : s[k]? = some true) : Der (trimG g l s) (toV s k) := by
  induction hd with
  | mk q hq hx ih =>
    have hu : useB l q = true := (useB_iff l q).2 (fun x hxm ht => h.lens.of_der h.rules (hx x hxm ht))
    have hm := h.stay hq hk hu
    have e : toV s q.left.toNat = (trimRule s q).left.toNat := by simp [trimRule]
    rw [e]
    refine Der.mk _ hm fun y hy ht => ?_
    obtain ⟨x, hxm, rfl⟩ := List.mem_map.1 hy
    have hxt : x.term = false := by
      cases hb : x.term
      · rfl
      · unfold renSym at ht; rw [if_pos hb] at ht; rw [hb] at ht; cases ht
    have e2 : (renSym s x).n.toNat = toV s x.n.toNat := by unfold renSym; rw [if_neg (by simp [hxt])]; simp
    rw [e2]
    exact ih x hxm hxt (h.reach.closed hq hk hu hxm hxt ((h.rules q hq).2.2.2 x hxm |>.2 hxt))
theorem TrimS.ends {g : Gram} {n : Nat} {l : List Int} {s : List Bool} (h : TrimS g n l s) {l' : List Int} (h' : LFix (trimG g l s) (s.count true) l') {k : Nat} (hk : k < s.count true) : 0 ≤ l'.getD k 0 := by
  obtain ⟨i, hi, rfl⟩ := toV_ex hk
  have hin : i < n := by rw [← h.reach.len]; exact (List.getElem?_eq_some_iff.1 hi).1
  exact h'.of_der h.rulesIn (h.der (h.lens.der h.rules hin (reached_len (n := n) h.pos (h.reach.rea hi))) hi)
/-- All nonterminals of a trimmed grammar are reached. -/
theorem TrimS.rea {g : Gram} {n : Nat} {l : List Int} {s : List Bool} (h : TrimS g n l s) {p' : Rule → Bool} {s' : List Bool} (h' : RFix (trimG g l s) p' (s.count true) s') (hp : ∀ r ∈ (trimG g l s).rules, p' r = true) {k : Nat} (hr : Rea g (useB l) k) : s[k]? = some true ∧ s'[toV s k]? = some true := by
  induction hr with
  | start =>
    refine ⟨h.reach.start, ?_⟩
    have := h'.start
    simpa [trimG] using this
  | step q hq hl hu x hx ht ih =>
    have hxs := h.reach.closed hq ih.1 hu hx ht ((h.rules q hq).2.2.2 x hx |>.2 ht)
    refine ⟨hxs, ?_⟩
    have hm := h.stay hq ih.1 hu
    have e2 : (renSym s x).n.toNat = toV s x.n.toNat := by unfold renSym; rw [if_neg (by simp [ht])]; simp
    have := h'.closed hm (by simpa [trimRule] using ih.2) (hp _ hm) (x := renSym s x) (List.mem_map.2 ⟨x, hx, rfl⟩) (by unfold renSym; rw [if_neg (by simp [ht])]) (by rw [e2]; exact toV_lt hxs)
    rwa [e2] at this
theorem TrimS.reached {g : Gram} {n : Nat} {l : List Int} {s : List Bool} (h : TrimS g n l s) {p' : Rule → Bool} {s' : List Bool} (h' : RFix (trimG g l s) p' (s.count true) s') (hp : ∀ r ∈ (trimG g l s).rules, p' r = true) {k : Nat} (hk : k < s.count true) : s'[k]? = some true := by
  obtain ⟨i, hi, rfl⟩ := toV_ex hk
  exact (h.rea h' hp (h.reach.rea hi)).2

/-! A grammar that Trim leaves as it is. -/
theorem all_true {s : List Bool} {n : Nat} (hl : s.length = n) (h : ∀ k, k < n → s[k]? = some true) : s = List.replicate n true := by
  apply List.ext_getElem?
  intro k
  rw [List.getElem?_replicate]
  split
  · rename_i hk; exact h k hk
  · rename_i hk; exact List.getElem?_eq_none (by omega)
theorem toV_all {n k : Nat} (h : k < n) : toV (List.replicate n true) k = k := by
  unfold toV
  rw [List.getD_eq_getElem?_getD, List.getElem?_replicate, if_pos h]
  simp [List.take_replicate]; omega
theorem trim_same {g : Gram} {n : Nat} {l : List Int} (hr : RulesIn g n) (hn : g.nons = (n : Int)) (h0 : 0 ≤ g.start) (h1 : g.start.toNat < n) (hl : ∀ k, k < n → 0 ≤ l.getD k 0) : trimG g l (List.replicate n true) = g ∧ (∀ q ∈ g.rules, stayB l (List.replicate n true) q = true) := by
  have hst : ∀ q ∈ g.rules, stayB l (List.replicate n true) q = true := by
    intro q hq
    have h2 := hr q hq
    unfold stayB
    rw [List.getD_eq_getElem?_getD, List.getElem?_replicate, if_pos h2.2.1, (useB_iff l q).2 (fun x hx ht => hl _ (h2.2.2.2 x hx |>.2 ht))]
    rfl
  refine ⟨?_, hst⟩
  obtain ⟨gt, gn, gs, rs⟩ := g
  unfold trimG
  have e1 : (List.replicate n true).count true = n := by simp
  have e2 : rs.filter (stayB l (List.replicate n true)) = rs := List.filter_eq_self.2 hst
  have e3 : rs.map (trimRule (List.replicate n true)) = rs := by
    have : ∀ q ∈ rs, trimRule (List.replicate n true) q = id q := by
      intro q hq
      obtain ⟨a, b, c, d⟩ := hr q hq
      obtain ⟨ql, qr⟩ := q
      dsimp only at a b c d
      unfold trimRule
      have e4 : qr.map (renSym (List.replicate n true)) = qr := by
        have : ∀ x ∈ qr, renSym (List.replicate n true) x = id x := by
          intro x hx
          obtain ⟨h3, h4⟩ := d x hx
          obtain ⟨xt, xn⟩ := x
          dsimp only at h3 h4
          unfold renSym
          cases xt
          · simp only [Bool.false_eq_true, if_false]
            rw [toV_all (h4 rfl)]
            simp; omega
          · simp
        rw [List.map_congr_left this, List.map_id]
      rw [toV_all b, e4]
      simp; omega
    rw [List.map_congr_left this, List.map_id]
  dsimp only at *
  rw [e1, e2, e3, toV_all h1, hn]
  congr 1
  omega
end Go.Proofs.Ytecofoilghdedaa

/- The reference's rounds of lengths, each from the round before, end in the same table. No program is named here. -/
namespace Go.Proofs.Ytecofoilghdedaa
open Go.RowKit
set_option linter.unusedVariables false

theorem RankI.pass {rs : List Rule} {n : Nat} : ∀ (ps : List Rule) (l : List Int) (T : Nat → Nat) (top : Nat), RankI rs l T top → l.length = n → (∀ q ∈ ps, q ∈ rs ∧ q.left.toNat < n) → ∃ T' top', RankI rs (lenPass ps l) T' top' ∧ (lenPass ps l).length = n
  | [], l, T, top, h, hl, _ => ⟨T, top, h, hl⟩
  | q :: ps, l, T, top, h, hl, hp => by
    obtain ⟨T1, top1, h1⟩ := h.step q (hp q (by simp)).1 (by rw [hl]; exact (hp q (by simp)).2)
    exact RankI.pass ps (lenStep l q) T1 top1 h1 (by rw [lenStep_len, hl]) (fun x hx => hp x (by simp [hx]))
theorem RankI.iter {rs : List Rule} {n : Nat} (hp : ∀ q ∈ rs, q.left.toNat < n) : ∀ k : Nat, ∃ T top, RankI rs (lenIter rs k (lenInit n)) T top ∧ (lenIter rs k (lenInit n)).length = n
  | 0 => ⟨_, _, RankI.init rs n, by simp [lenIter, lenInit]⟩
  | k + 1 => by
    obtain ⟨T, top, h, hl⟩ := RankI.iter hp k
    exact RankI.pass rs _ T top h hl (fun q hq => ⟨hq, hp q hq⟩)

theorem LFix.low {g : Gram} {n : Nat} {l : List Int} (h : LFix g n l) {q : Rule} (hq : q ∈ g.rules) (hl : q.left.toNat < n) (h0 : 0 ≤ sumR l 0 q.right) : 0 ≤ l.getD q.left.toNat 0 ∧ l.getD q.left.toNat 0 ≤ sumR l 0 q.right := by
  have hf := h.fix q hq
  have hlt : q.left.toNat < l.length := by rw [h.shape.len]; exact hl
  unfold lenStep at hf
  split at hf
  · rename_i hc
    have h2 := congrArg (fun z : List Int => z.getD q.left.toNat 0) hf
    rw [getD_set hlt, if_pos rfl] at h2
    omega
  · omega
theorem LFix.rank {g : Gram} {n : Nat} {l : List Int} (h : LFix g n l) (hr : ∀ q ∈ g.rules, q.left.toNat < n) :
    ∃ T : Nat → Nat, ∀ x, x < n → 0 ≤ l.getD x 0 → ∃ q ∈ g.rules, q.left.toNat = x ∧ sumR l 0 q.right = l.getD x 0 ∧ ∀ s ∈ q.right, s.term = false → T s.n.toNat < T x := by
  obtain ⟨k, hk⟩ := h.iter
  obtain ⟨T, top, hT, hl⟩ := RankI.iter hr k
  rw [← hk] at hT hl
  refine ⟨T, fun x hx hx0 => ?_⟩
  obtain ⟨q, hq, hql, h0, h1, h2⟩ := hT.how x (by omega) hx0
  have h3 := h.low hq (hr q hq) h0
  rw [hql] at h3
  have he : sumR l 0 q.right = l.getD x 0 := by omega
  exact ⟨q, hq, hql, he, h2 he⟩

/-! The reference's rounds. -/
def jacStep (out next : List Int) (q : Rule) : List Int :=
  if 0 ≤ sumR out 0 q.right ∧ (next.getD q.left.toNat 0 < 0 ∨ sumR out 0 q.right < next.getD q.left.toNat 0) then next.set q.left.toNat (sumR out 0 q.right) else next
def jacRound (rs : List Rule) (out : List Int) : List Int := rs.foldl (jacStep out) out
def jacIter (rs : List Rule) : Nat → List Int → List Int
  | 0, l => l
  | k + 1, l => jacRound rs (jacIter rs k l)

/-- A table on the way: no length is too small. -/
structure JacI (n : Nat) (L out : List Int) : Prop where
  len : out.length = n
  low : ∀ x, x < n → -1 ≤ out.getD x 0
  ge : ∀ x, x < n → 0 ≤ out.getD x 0 → 0 ≤ L.getD x 0 ∧ L.getD x 0 ≤ out.getD x 0
/-- next is at most out, where out has a length. -/
def LeJ (n : Nat) (next out : List Int) : Prop := ∀ x, x < n → 0 ≤ out.getD x 0 → 0 ≤ next.getD x 0 ∧ next.getD x 0 ≤ out.getD x 0
theorem LeJ.refl (n : Nat) (l : List Int) : LeJ n l l := fun x _ h => ⟨h, Int.le_refl _⟩
theorem LeJ.trans {n : Nat} {a b c : List Int} (h : LeJ n a b) (k : LeJ n b c) : LeJ n a c := fun x hx hc => by
  obtain ⟨k1, k2⟩ := k x hx hc
  obtain ⟨h1, h2⟩ := h x hx k1
  exact ⟨h1, by omega⟩
theorem jacStep_le {n : Nat} {out next : List Int} (q : Rule) (hn : next.length = n) (hq : q.left.toNat < n) : LeJ n (jacStep out next q) next ∧ (0 ≤ sumR out 0 q.right → 0 ≤ (jacStep out next q).getD q.left.toNat 0 ∧ (jacStep out next q).getD q.left.toNat 0 ≤ sumR out 0 q.right) := by
  unfold jacStep
  split
  · rename_i hc
    refine ⟨fun x hx h0 => ?_, fun h0 => ?_⟩
    · rw [getD_set (by omega)]
      split
      · rename_i e
        subst e
        omega
      · exact ⟨h0, Int.le_refl _⟩
    · rw [getD_set (by omega), if_pos rfl]
      exact ⟨h0, Int.le_refl _⟩
  · exact ⟨LeJ.refl _ _, fun h0 => by omega⟩
theorem jacStep_inv {g : Gram} {n : Nat} {L out next : List Int} (h : LFix g n L) (hr : ∀ q ∈ g.rules, q.left.toNat < n ∧ ∀ s ∈ q.right, s.term = false → s.n.toNat < n) (q : Rule) (hq : q ∈ g.rules) (ho : JacI n L out) (hn : JacI n L next) : JacI n L (jacStep out next q) := by
  unfold jacStep
  split
  · rename_i hc
    have hql := (hr q hq).1
    have hlen : q.left.toNat < next.length := by rw [hn.len]; exact hql
    have hp := (sumR_nonneg out q.right 0 (Int.le_refl 0)).1 hc.1
    obtain ⟨i1, i2, _⟩ := sumR_less (l := out) (l' := L) q.right 0 0 (Int.le_refl 0) (Int.le_refl 0) (fun s hs ht => ho.ge _ ((hr q hq).2 s hs ht) (hp s hs ht))
    have h3 := h.low hq hql i1
    refine ⟨by rw [List.length_set, hn.len], fun x hx => ?_, fun x hx h0 => ?_⟩
    · rw [getD_set hlen]
      split
      · omega
      · exact hn.low x hx
    · rw [getD_set hlen] at h0 ⊢
      split
      · rename_i e
        subst e
        omega
      · rename_i e
        rw [if_neg e] at h0
        exact hn.ge x hx h0
  · exact hn
theorem jac_fold {g : Gram} {n : Nat} {L out : List Int} (h : LFix g n L) (hr : ∀ q ∈ g.rules, q.left.toNat < n ∧ ∀ s ∈ q.right, s.term = false → s.n.toNat < n) (ho : JacI n L out) : ∀ (ps : List Rule) (next : List Int), (∀ q ∈ ps, q ∈ g.rules) → JacI n L next →
    JacI n L (ps.foldl (jacStep out) next) ∧ LeJ n (ps.foldl (jacStep out) next) next ∧ ∀ q ∈ ps, 0 ≤ sumR out 0 q.right → 0 ≤ (ps.foldl (jacStep out) next).getD q.left.toNat 0 ∧ (ps.foldl (jacStep out) next).getD q.left.toNat 0 ≤ sumR out 0 q.right
  | [], next, _, hn => ⟨hn, LeJ.refl _ _, by simp⟩
  | q :: ps, next, hp, hn => by
    have hq := hp q (by simp)
    obtain ⟨s1, s2⟩ := jacStep_le (out := out) q hn.len (hr q hq).1
    obtain ⟨i1, i2, i3⟩ := jac_fold h hr ho ps (jacStep out next q) (fun x hx => hp x (by simp [hx])) (jacStep_inv h hr q hq ho hn)
    refine ⟨i1, i2.trans s1, fun x hx h0 => ?_⟩
    rcases List.mem_cons.1 hx with rfl | hx
    · obtain ⟨j1, j2⟩ := s2 h0
      obtain ⟨k1, k2⟩ := i2 _ (hr _ hq).1 j1
      exact ⟨k1, Int.le_trans k2 j2⟩
    · exact i3 x hx h0

theorem countP_less {p p' : Nat → Bool} : ∀ (l : List Nat), (∀ x ∈ l, p' x = true → p x = true) → (∃ x ∈ l, p x = true ∧ p' x = false) → l.countP p' < l.countP p
  | [], _, h => by obtain ⟨x, hx, _⟩ := h; simp at hx
  | a :: l, hm, h => by
    have hle : l.countP p' ≤ l.countP p := List.countP_mono_left (fun x hx => hm x (by simp [hx]))
    obtain ⟨x, hx, h1, h2⟩ := h
    rw [List.countP_cons, List.countP_cons]
    rcases List.mem_cons.1 hx with rfl | hx
    · rw [h1, h2]; simp; omega
    · have ih := countP_less l (fun y hy => hm y (by simp [hy])) ⟨x, hx, h1, h2⟩
      have ha := hm a (by simp)
      cases hp' : p' a
      · simp; omega
      · rw [ha hp']; simp; omega
def wrongJ (n : Nat) (L out : List Int) : Nat := (List.range n).countP fun x => decide (out.getD x 0 ≠ L.getD x 0)
theorem JacI.none {g : Gram} {n : Nat} {L out : List Int} (h : LFix g n L) (ho : JacI n L out) {x : Nat} (hx : x < n) (hL : ¬ 0 ≤ L.getD x 0) : out.getD x 0 = L.getD x 0 := by
  have h1 := ho.low x hx
  have h2 := (h.shape.get x).1
  have h3 : ¬ 0 ≤ out.getD x 0 := fun h4 => hL (ho.ge x hx h4).1
  omega
theorem jac_less {g : Gram} {n : Nat} {L out : List Int} (h : LFix g n L) (hr : ∀ q ∈ g.rules, q.left.toNat < n ∧ ∀ s ∈ q.right, s.term = false → s.n.toNat < n) (ho : JacI n L out) :
    JacI n L (jacRound g.rules out) ∧ (wrongJ n L out = 0 ∨ wrongJ n L (jacRound g.rules out) < wrongJ n L out) ∧ wrongJ n L (jacRound g.rules out) ≤ wrongJ n L out := by
  obtain ⟨i1, i2, i3⟩ := jac_fold h hr ho g.rules out (fun q hq => hq) ho
  have hkeep : ∀ x, x < n → out.getD x 0 = L.getD x 0 → (jacRound g.rules out).getD x 0 = L.getD x 0 := fun x hx he => by
    by_cases hL : 0 ≤ L.getD x 0
    · obtain ⟨j1, j2⟩ := i2 x hx (by omega)
      have := (i1.ge x hx j1).2
      show (List.foldl (jacStep out) out g.rules).getD x 0 = _
      omega
    · exact i1.none h hx hL
  have hmono : ∀ x ∈ List.range n, decide ((jacRound g.rules out).getD x 0 ≠ L.getD x 0) = true → decide (out.getD x 0 ≠ L.getD x 0) = true := fun x hx hp => by
    have hx := List.mem_range.1 hx
    simp only [decide_eq_true_eq] at hp ⊢
    exact fun e => hp (hkeep x hx e)
  refine ⟨i1, ?_, List.countP_mono_left hmono⟩
  obtain ⟨T, hT⟩ := h.rank (fun q hq => (hr q hq).1)
  by_cases hw : ∃ x, x < n ∧ out.getD x 0 ≠ L.getD x 0
  · refine .inr (countP_less _ hmono ?_)
    obtain ⟨x, hx, hne⟩ := hw
    have key : ∀ (t x : Nat), T x = t → x < n → out.getD x 0 ≠ L.getD x 0 → ∃ y, y < n ∧ out.getD y 0 ≠ L.getD y 0 ∧ (jacRound g.rules out).getD y 0 = L.getD y 0 := by
      intro t
      induction t using Nat.strongRecOn with
      | _ t ih =>
        intro x ht hx hne
        have hL : 0 ≤ L.getD x 0 := by
          false_or_by_contra
          rename_i hn
          exact hne (ho.none h hx hn)
        obtain ⟨q, hq, hql, hs, hp⟩ := hT x hx hL
        by_cases hall : ∃ s ∈ q.right, s.term = false ∧ out.getD s.n.toNat 0 ≠ L.getD s.n.toNat 0
        · obtain ⟨s, hs1, hs2, hs3⟩ := hall
          exact ih (T s.n.toNat) (by rw [← ht]; exact hp s hs1 hs2) s.n.toNat rfl ((hr q hq).2 s hs1 hs2) hs3
        · have he : sumR out 0 q.right = sumR L 0 q.right := sumR_same q.right 0 (fun s h1 h2 => by
            false_or_by_contra
            rename_i hn
            exact hall ⟨s, h1, h2, hn⟩)
          obtain ⟨j1, j2⟩ := i3 q hq (by omega)
          rw [hql] at j1 j2
          have := (i1.ge x hx j1).2
          refine ⟨x, hx, hne, ?_⟩
          show (List.foldl (jacStep out) out g.rules).getD x 0 = _
          omega
    obtain ⟨y, hy, h1, h2⟩ := key _ x rfl hx hne
    exact ⟨y, List.mem_range.2 hy, by simpa using h1, by simpa using h2⟩
  · refine .inl ?_
    unfold wrongJ
    rw [List.countP_eq_zero]
    intro x hx
    have hx := List.mem_range.1 hx
    simp only [decide_eq_true_eq]
    exact fun hne => hw ⟨x, hx, hne⟩
theorem JacI.init {g : Gram} {n : Nat} {L : List Int} (h : LFix g n L) : JacI n L (lenInit n) :=
  ⟨by simp [lenInit], fun x hx => by simp [lenInit, List.getD_eq_getElem?_getD, hx], fun x hx h0 => by simp [lenInit, List.getD_eq_getElem?_getD, hx] at h0⟩
theorem jac_iter {g : Gram} {n : Nat} {L : List Int} (h : LFix g n L) (hr : ∀ q ∈ g.rules, q.left.toNat < n ∧ ∀ s ∈ q.right, s.term = false → s.n.toNat < n) : ∀ k, JacI n L (jacIter g.rules k (lenInit n)) ∧ wrongJ n L (jacIter g.rules k (lenInit n)) ≤ n - k
  | 0 => ⟨JacI.init h, by
      unfold wrongJ
      have := List.countP_le_length (p := fun x => decide ((jacIter g.rules 0 (lenInit n)).getD x 0 ≠ L.getD x 0)) (l := List.range n)
      rw [List.length_range] at this
      omega⟩
  | k + 1 => by
    obtain ⟨h1, h2⟩ := jac_iter h hr k
    obtain ⟨j1, j2, j3⟩ := jac_less h hr h1
    refine ⟨j1, ?_⟩
    show wrongJ n L (jacRound g.rules (jacIter g.rules k (lenInit n))) ≤ _
    omega
/-- n rounds of the reference end in the program's table. -/
theorem jac_end {g : Gram} {n : Nat} {L : List Int} (h : LFix g n L) (hr : ∀ q ∈ g.rules, q.left.toNat < n ∧ ∀ s ∈ q.right, s.term = false → s.n.toNat < n) : jacIter g.rules n (lenInit n) = L := by
  obtain ⟨h1, h2⟩ := jac_iter h hr n
  have h3 : wrongJ n L (jacIter g.rules n (lenInit n)) = 0 := by omega
  unfold wrongJ at h3
  rw [List.countP_eq_zero] at h3
  apply List.ext_getElem?
  intro i
  rcases Nat.lt_or_ge i n with hi | hi
  · have h4 := h3 i (List.mem_range.2 hi)
    simp only [decide_eq_true_eq, ne_eq, Classical.not_not] at h4
    have e1 := h1.len
    have e2 := h.shape.len
    rw [List.getD_eq_getElem?_getD, List.getD_eq_getElem?_getD, List.getElem?_eq_getElem (by omega), List.getElem?_eq_getElem (by omega)] at h4
    rw [List.getElem?_eq_getElem (by omega), List.getElem?_eq_getElem (by omega)]
    simpa using h4
  · rw [List.getElem?_eq_none (by rw [h1.len]; exact hi), List.getElem?_eq_none (by rw [h.shape.len]; exact hi)]
end Go.Proofs.Ytecofoilghdedaa

/- Parts of slices, and slices of two slices, read. -/
namespace Go.Proofs.Ytecofoilghdedaa
open Go.RowKit
set_option linter.unusedVariables false
section
variable {w : World} {S : Nat → Prop} {α : Type} [Dat α]
theorem Els.takeS {xs : List α} {A : Option Addr} (h : Els w S xs A) (n : Nat) : Els w S (xs.take n) A := by
  intro hne
  obtain ⟨b', o', e, hS, hx⟩ := h (by rintro rfl; simp at hne)
  refine ⟨b', o', e, hS, fun i y hi => hx i y ?_⟩
  rw [List.getElem?_take] at hi
  split at hi
  · exact hi
  · cases hi
theorem Els.dropS {xs : List α} {b o : Nat} (h : Els w S xs (some ⟨b, o, none⟩)) (n : Nat) : Els w S (xs.drop n) (some ⟨b, o + n * Dat.size α, none⟩) := by
  intro hne
  obtain ⟨b', o', e, hS, hx⟩ := h (by rintro rfl; simp at hne)
  injection e with e
  injection e with e1 e2 _
  subst e1; subst e2
  refine ⟨b, o + n * Dat.size α, rfl, hS, fun i y hi => ?_⟩
  rw [List.getElem?_drop] at hi
  obtain ⟨cs, h1, h2⟩ := hx _ y hi
  refine ⟨cs, h1, ?_⟩
  rw [show o + n * Dat.size α + i * Dat.size α = o + (n + i) * Dat.size α from by rw [Nat.add_mul]; omega]
  exact h2
theorem Els.nilS {A : Option Addr} : Els w S ([] : List α) A := fun h => absurd rfl h
/-- A row of a slice of slices. -/
theorem Els.rowS {xs : List (List α)} {A : Option Addr} (h : Els w S xs A) {k : Nat} {x : List α} (hk : xs[k]? = some x) :
    ∃ b o A' c, A = some ⟨b, o, none⟩ ∧ S b ∧ b < w.heap.size ∧ w.cell? ⟨b, o + k, none⟩ = some (.slice A' x.length c) ∧ x.length ≤ c ∧ c ≤ 9223372036854775807 ∧ Els w S x A' := by
  obtain ⟨b, o, cs, hA, hS, hb, ⟨A', c, rfl, h1, h2, h3⟩, hc⟩ := h.at_ hk
  refine ⟨b, o, A', c, hA, hS, hb, ?_, h1, by simpa [maxLen] using h2, h3⟩
  have := hc.c0
  rwa [show o + k * Dat.size (List α) = o + k from by show o + k * 1 = o + k; omega] at this
/-- A literal of two slices. -/
theorem els_pairS {x y : List α} {A B : Option Addr} {c d : Nat} (t : TypeId) (hx : Els w S x A) (hy : Els w S y B) (hc : x.length ≤ c) (hc2 : c ≤ 9223372036854775807) (hd : y.length ≤ d) (hd2 : d ≤ 9223372036854775807) :
    Els (w.alloc (.cells #[.slice A x.length c, .slice B y.length d] t)) (fun b => S b ∨ b = w.heap.size) [x, y] (some ⟨w.heap.size, 0, none⟩) := fun _ => by
  have hb : Below w.heap.size w (w.alloc (.cells #[.slice A x.length c, .slice B y.length d] t)) := (Below.refl _ _).alloc (Nat.le_refl _) _
  refine ⟨w.heap.size, 0, rfl, .inr rfl, fun i z hi => ?_⟩
  match i, hi with
  | 0, hi =>
    simp at hi; subst hi
    refine ⟨[.slice A x.length c], ⟨A, c, rfl, hc, by simpa [maxLen] using hc2, (hx.below hb).keep (fun _ _ _ => rfl) (fun b h => .inl h)⟩, fun j u hu => ?_⟩
    match j, hu with
    | 0, hu => simp at hu; subst hu; rw [show 0 + 0 * Dat.size (List α) + 0 = 0 by omega]; exact (Blk'.new w t _).cell 0
  | 1, hi =>
    simp at hi; subst hi
    refine ⟨[.slice B y.length d], ⟨B, d, rfl, hd, by simpa [maxLen] using hd2, (hy.below hb).keep (fun _ _ _ => rfl) (fun b h => .inl h)⟩, fun j u hu => ?_⟩
    match j, hu with
    | 0, hu => simp at hu; subst hu; rw [show 0 + 1 * Dat.size (List α) + 0 = 1 from rfl]; exact (Blk'.new w t _).cell 1
end
end Go.Proofs.Ytecofoilghdedaa

/- Steps of a region that draws its order, by hand: the operation is read off the written-out list. No program is named here. -/
namespace Go.Proofs.Ytecofoilghdedaa
open Go.RowKit
set_option linter.unusedVariables false

theorem drop_get {l : List Oper} {i : Nat} {o : Oper} {rest : List Oper} (h : l.drop i = o :: rest) : l.toArray[i]? = some o := by
  have h1 : (l.drop i)[0]? = some o := by rw [h]; rfl
  simpa using h1
section
variable {P : Program} {l : List Oper} {Q : Exit → Act → World → Prop} {md : Region.Mode} {S : World → Prop}
/-- An operation that runs, and only reads. -/
theorem take_run {i : Nat} {oi : Oper} {rest : List Oper} {v : Value} {fuel : Nat} {listed : Array Bool} {a : Act} {w : World} (hi : l.drop i = oi :: rest)
    (hs : Region.noSelect l.toArray = true) (hf : Region.free md l.toArray listed i = true) (hr : (Region.ready md l.toArray listed).contains i = true)
    (hQ : ∀ c a w, Q (.panic c) (a.put oi.dst v) w → Q (.panic c) a w) (hw : Region.wanted oi (yielded l.toArray a.tmps) = true) (hy : ∀ w, S w → (execOp a.eval oi).run P w = .ok (.value v) w) (hS : S w)
    (h : wpAnyH P md l.toArray Q S fuel (listed.setIfInBounds i true) (a.put oi.dst v) w) : wpAnyH P md l.toArray Q S (fuel + 1) listed a w :=
  wpAnyH_take (drop_get hi) hs hf hr hQ (.inl ⟨hw, hy⟩) hS h
/-- An operation whose guard bars it. -/
theorem take_bar {i : Nat} {oi : Oper} {rest : List Oper} {fuel : Nat} {listed : Array Bool} {a : Act} {w : World} (hi : l.drop i = oi :: rest)
    (hs : Region.noSelect l.toArray = true) (hf : Region.free md l.toArray listed i = true) (hr : (Region.ready md l.toArray listed).contains i = true)
    (hQ : ∀ c a w, Q (.panic c) (a.put oi.dst undef) w → Q (.panic c) a w) (hw : Region.wanted oi (yielded l.toArray a.tmps) = false) (hS : S w)
    (h : wpAnyH P md l.toArray Q S fuel (listed.setIfInBounds i true) (a.put oi.dst undef) w) : wpAnyH P md l.toArray Q S (fuel + 1) listed a w :=
  wpAnyH_take (drop_get hi) hs hf hr hQ (.inr ⟨hw, rfl⟩) hS h
/-- A call that alone may come up. -/
theorem take_call {i : Nat} {o : Oper} {rest : List Oper} {fuel : Nat} {listed : Array Bool} {a : Act} {w : World} (hi : l.drop i = o :: rest) (hr : Region.ready md l.toArray listed = [i]) (hw : Region.wanted o (yielded l.toArray a.tmps) = true)
    (h : ∀ K' : Act → World → Prop, Shut (∀ a w, S w → (S w → wpAnyH P md l.toArray Q S fuel (listed.setIfInBounds i true) a w) → K' a w) → Oper.wp P o a w K' Q) : wpAnyH P md l.toArray Q S (fuel + 1) listed a w :=
  wpAnyH_ready hr (by simp) (AllReadyH.cons (drop_get hi) (fun K hK => by rw [if_pos hw]; exact h K hK) AllReadyH.nil)
/-- Two operations that may come up. -/
theorem take_two {i j : Nat} {o o' : Oper} {rest rest' : List Oper} {fuel : Nat} {listed : Array Bool} {a : Act} {w : World} (hi : l.drop i = o :: rest) (hj : l.drop j = o' :: rest') (hr : Region.ready md l.toArray listed = [i, j]) (hwi : Region.wanted o (yielded l.toArray a.tmps) = true) (hwj : Region.wanted o' (yielded l.toArray a.tmps) = true)
    (h1 : ∀ K' : Act → World → Prop, Shut (∀ a w, S w → (S w → wpAnyH P md l.toArray Q S fuel (listed.setIfInBounds i true) a w) → K' a w) → Oper.wp P o a w K' Q)
    (h2 : ∀ K' : Act → World → Prop, Shut (∀ a w, S w → (S w → wpAnyH P md l.toArray Q S fuel (listed.setIfInBounds j true) a w) → K' a w) → Oper.wp P o' a w K' Q) : wpAnyH P md l.toArray Q S (fuel + 1) listed a w :=
  wpAnyH_ready hr (by simp) (AllReadyH.cons (drop_get hi) (fun K hK => by rw [if_pos hwi]; exact h1 K hK) (AllReadyH.cons (drop_get hj) (fun K hK => by rw [if_pos hwj]; exact h2 K hK) AllReadyH.nil))
end
end Go.Proofs.Ytecofoilghdedaa

/- Pairs of ints ([2]int) read. -/
namespace Go.Proofs.Ytecofoilghdedaa
open Go.RowKit
set_option linter.unusedVariables false
instance instDatPair : Dat (Int × Int) where
  size := 2
  wraps := true
  rd _ _ n cs := cs = [.int .i64 n.1, .int .i64 n.2] ∧ I64 n.1 ∧ I64 n.2
  len h := by rw [h.1]; rfl
  pos := by decide
  flat h := by simp at h
  one h := by rw [h.1]; intro u hu; simp at hu; rcases hu with rfl | rfl <;> rfl
  keep _ _ h := h
theorem infoPair : (Try.prog.info? 129).map (fun i => (i.zero, i.size, i.bytes)) = some (some (.agg #[.int .i64 0, .int .i64 0]), 2, 16) := by kernel_rfl
theorem elemPair : ElemT Try.prog (Int × Int) 128 129 16 := by obtain ⟨i, h1, h2, h3, h4⟩ := info_parts infoPair; exact ⟨i, _, Try.underlying128, h1, h2, h3, h4, rfl⟩
theorem Els.pair {w : World} {S : Nat → Prop} {A : Option Addr} {k : Nat} {xs : List (Int × Int)} {x : Int × Int} (h : Els w S xs A) (hk : xs[k]? = some x) :
    ∃ b o, A = some ⟨b, o, none⟩ ∧ S b ∧ b < w.heap.size ∧ (I64 x.1 ∧ I64 x.2) ∧ w.cell? ⟨b, o + k * 2, none⟩ = some (.int .i64 x.1) ∧ w.cell? ⟨b, o + k * 2 + 1, none⟩ = some (.int .i64 x.2) := by
  obtain ⟨b, o, cs, hA, hS, hb, ⟨rfl, h1⟩, hc⟩ := h.at_ hk
  exact ⟨b, o, hA, hS, hb, h1, hc.c0, hc.c1⟩
end Go.Proofs.Ytecofoilghdedaa

/- Rows of numbers that are known whole; made. -/
namespace Go.Proofs.Ytecofoilghdedaa
open Go.RowKit
set_option linter.unusedVariables false

def icells (l : List Int) : Array Value := (l.map fun x => Value.int .i64 x).toArray
theorem icells_size (l : List Int) : (icells l).size = l.length := by simp [icells]
theorem icells_get {l : List Int} {i : Nat} {x : Int} (h : l[i]? = some x) : (icells l)[i]? = some (.int .i64 x) := by simp [icells, h]
theorem icells_set (l : List Int) (i : Nat) (x : Int) : (icells l).setIfInBounds i (.int .i64 x) = icells (l.set i x) := by
  apply Array.ext'
  simp [icells, List.map_set]
theorem icells_made (n : Nat) : madeCells #[.int .i64 0] n = icells (List.replicate n 0) := by
  apply Array.ext'
  simp only [madeCells, icells, Array.toList_map, Array.toList_range, List.map_replicate]
  apply List.ext_getElem
  · simp
  · intro i h1 h2
    simp [Nat.mod_one]
theorem els_icells {w : World} {S : Nat → Prop} {g : Nat} {t : TypeId} {ms : List Int} (hb : Blk' w g t (icells ms)) (h : ∀ v ∈ ms, I64 v) (hS : S g) : Els w S ms (some ⟨g, 0, none⟩) :=
  fun _ => ⟨g, 0, rfl, hS, fun i x hi => ⟨[.int .i64 x], ⟨rfl, h x (List.mem_of_getElem? hi)⟩, fun j u hu => by
    match j, hu with
    | 0, hu =>
      simp at hu; subst hu
      have e : 0 + i * Dat.size Int + 0 = i := by show 0 + i * 1 + 0 = i; omega
      rw [e, hb.cell]
      exact icells_get hi⟩⟩
theorem mkInts (n : Nat) (hn : n ≤ 1000000) (W : World) : (Instr.makeSlice 22 (.int .i64 (n : Int)) (.int .i64 (n : Int))).run Try.prog W = .ok (.slice (some ⟨W.heap.size, 0, none⟩) n n) (W.alloc (.cells (icells (List.replicate n 0)) 3)) := by
  rw [← icells_made]
  exact run_make_row' (P := Try.prog) 22 3 (.int .i64 0) 8 Try.underlying22 infoInt rfl .i64 .i64 n (by omega) (by omega) W

end Go.Proofs.Ytecofoilghdedaa

