/- Plain facts and definitions of this proof, of several texts joined: Mem, Data, Open, Opens, Elem, App, FirstP, AccP, ClosedP, Idx, Kept, RuleB, PutL, RegByHand, Take, RevP, Nodes, MirP, TreeRow, Backward, TurnT, RoundReg, TreeOpen. -/
import Derived.WalkKit
import Derived.WalkSpells
import Derived.WalkLawsBesides
import Derived.Deep.Draws
import Derived.Lib.Hide
import Derived.Maps.AppendAt
import Derived.Test.YtaidadjekfcacaaDoorRows
import Derived.ProofKit
import Derived.Deep.Slices
import Derived.Deep.Fields
import Derived.ChangeSame
import Derived.Test.YtaidadjekfcacaaDoorChecked
import Derived.Lib.AppendZeros
import Derived.Lib.TrailingZeros
import Derived.Deep.RegionHeld3
import Derived.RangeFuncNested
import Derived.RangeFuncBox
import Derived.RangeFuncLeaves
import Derived.Shelf.Abstract
import Derived.OwnWalkIn
import Derived.TacticsInMore
import Derived.LoopNIn
import Derived.LoopIn
import Derived.IntWalk
import Derived.RangeFuncOwn
import Derived.RangeFuncFrom
import Derived.RangeFuncCalls
import Derived.OrdersIn
import Derived.TacticsIn
/- How values in the model's memory read as plain data: a class of readable types, slices of them, and rows that the call itself owns and appends to. No program is named here. -/
namespace Go.Proofs.YtaidadjekfcacaaDoor
open Go.RowKit

theorem ret_int {k : IntKind} {a b : Int} (h : a = b) : Ending.returned (.int k a) = .returned (.int k b) := by rw [h]
theorem ret_bool {a b : Bool} (h : a = b) : Ending.returned (.bool a) = .returned (.bool b) := by rw [h]
theorem drop_cons {α : Type} {xs : List α} {k : Nat} {x : α} (h : xs[k]? = some x) : xs.drop k = x :: xs.drop (k + 1) := by
  obtain ⟨hlt, rfl⟩ := List.getElem?_eq_some_iff.1 h
  exact List.drop_eq_getElem_cons hlt
theorem get_some {α : Type} {xs : List α} {k : Nat} (h : k < xs.length) : ∃ x, xs[k]? = some x := ⟨_, List.getElem?_eq_getElem h⟩
theorem take_snoc {α : Type} {xs : List α} {k : Nat} {x : α} (h : xs[k]? = some x) : xs.take (k + 1) = xs.take k ++ [x] := by
  rw [List.take_add_one, h]; rfl

def I64 (n : Int) : Prop := -9223372036854775808 ≤ n ∧ n ≤ 9223372036854775807

/-- The cells cs lie in block b from offset o on. -/
def At (w : World) (b o : Nat) (cs : List Value) : Prop := ∀ j u, cs[j]? = some u → w.cell? ⟨b, o + j, none⟩ = some u

/-- A type of data that can be read: how many cells a value has, and when cells read as it. S: the blocks that the reading may touch beyond the cells themselves. -/
class Dat (α : Type) where
  size : Nat
  wraps : Bool
  rd : World → (Nat → Prop) → α → List Value → Prop
  len : ∀ {w S x cs}, rd w S x cs → cs.length = size
  pos : 0 < size
  flat : wraps = false → size = 1
  one : ∀ {w S x cs}, rd w S x cs → ∀ u ∈ cs, u.oneCell' = true
  keep : ∀ {w w' : World} {S S' : Nat → Prop} {x cs}, (∀ p : Addr, S p.block → p.block < w.heap.size → w'.cell? p = w.cell? p) → (∀ b, S b → S' b) → rd w S x cs → rd w' S' x cs

/-- The value v reads as x. -/
def Vl {α : Type} [Dat α] (w : World) (S : Nat → Prop) (x : α) (v : Value) : Prop :=
  ∃ cs, Dat.rd w S x cs ∧ v = if Dat.wraps α then .agg cs.toArray else cs.headD undef

/-- What a slice's address must lead to. -/
def Els {α : Type} [Dat α] (w : World) (S : Nat → Prop) (xs : List α) (A : Option Addr) : Prop :=
  xs ≠ [] → ∃ b o, A = some ⟨b, o, none⟩ ∧ S b ∧ ∀ i x, xs[i]? = some x → ∃ cs, Dat.rd w S x cs ∧ At w b (o + i * Dat.size α) cs

section
variable {w w' : World} {S S' : Nat → Prop} {b o : Nat}

theorem At.lt {cs : List Value} (h : At w b o cs) (hl : 0 < cs.length) : b < w.heap.size := by
  have h0 := h 0 cs[0] (List.getElem?_eq_getElem hl)
  exact World.block_lt_of_cell? w _ h0
theorem At.keep {cs : List Value} (h : At w b o cs) (hk : ∀ p : Addr, p.block = b → w'.cell? p = w.cell? p) : At w' b o cs :=
  fun j u hu => (hk _ rfl).trans (h j u hu)
theorem At.c0 {v : Value} {l : List Value} (h : At w b o (v :: l)) : w.cell? ⟨b, o, none⟩ = some v := by simpa using h 0 v rfl
theorem At.c1 {v0 v : Value} {l : List Value} (h : At w b o (v0 :: v :: l)) : w.cell? ⟨b, o + 1, none⟩ = some v := by simpa using h 1 v rfl
theorem At.c2 {v0 v1 v : Value} {l : List Value} (h : At w b o (v0 :: v1 :: v :: l)) : w.cell? ⟨b, o + 2, none⟩ = some v := by simpa using h 2 v rfl
theorem At.c3 {v0 v1 v2 v : Value} {l : List Value} (h : At w b o (v0 :: v1 :: v2 :: v :: l)) : w.cell? ⟨b, o + 3, none⟩ = some v := by simpa using h 3 v rfl
theorem At.c4 {v0 v1 v2 v3 v : Value} {l : List Value} (h : At w b o (v0 :: v1 :: v2 :: v3 :: v :: l)) : w.cell? ⟨b, o + 4, none⟩ = some v := by simpa using h 4 v rfl
theorem At.d2 {v0 v1 v : Value} {l : List Value} (h : At w b o (v0 :: v1 :: v :: l)) : w.cell? ⟨b, o + 1 + 1, none⟩ = some v := h.c2
theorem At.d3 {v0 v1 v2 v : Value} {l : List Value} (h : At w b o (v0 :: v1 :: v2 :: v :: l)) : w.cell? ⟨b, o + 1 + 1 + 1, none⟩ = some v := h.c3

theorem Vl.keep {α : Type} [Dat α] {x : α} {v : Value} (h : Vl w S x v) (hk : ∀ p : Addr, S p.block → p.block < w.heap.size → w'.cell? p = w.cell? p) (hS : ∀ b, S b → S' b) : Vl w' S' x v := by
  obtain ⟨cs, h1, h2⟩ := h
  exact ⟨cs, Dat.keep hk hS h1, h2⟩
theorem Vl.below {α : Type} [Dat α] {x : α} {v : Value} (h : Vl w S x v) (hb : Below w.heap.size w w') : Vl w' S x v :=
  h.keep (fun _ _ hp => hb.cell hp) (fun _ h => h)
theorem Vl.belowB {α : Type} [Dat α] {x : α} {v : Value} {B : Nat} (h : Vl w S x v) (hb : Below B w w') (hS : ∀ b, S b → b < B) : Vl w' S x v :=
  h.keep (fun _ hs _ => hb.cell (hS _ hs)) (fun _ h => h)
theorem Vl.mono {α : Type} [Dat α] {x : α} {v : Value} (h : Vl w S x v) (hS : ∀ b, S b → S' b) : Vl w S' x v := h.keep (fun _ _ _ => rfl) hS

theorem Els.keep {α : Type} [Dat α] {xs : List α} {A : Option Addr} (h : Els w S xs A) (hk : ∀ p : Addr, S p.block → p.block < w.heap.size → w'.cell? p = w.cell? p) (hS : ∀ b, S b → S' b) : Els w' S' xs A := by
  intro hne
  obtain ⟨b, o, hA, hb, hx⟩ := h hne
  refine ⟨b, o, hA, hS _ hb, fun i x hi => ?_⟩
  obtain ⟨cs, h1, h2⟩ := hx i x hi
  have hlt : b < w.heap.size := h2.lt (by rw [Dat.len h1]; exact Dat.pos)
  exact ⟨cs, Dat.keep hk hS h1, h2.keep fun p hp => hk p (hp ▸ hb) (hp ▸ hlt)⟩
theorem Els.below {α : Type} [Dat α] {xs : List α} {A : Option Addr} (h : Els w S xs A) (hb : Below w.heap.size w w') : Els w' S xs A :=
  h.keep (fun _ _ hp => hb.cell hp) (fun _ h => h)
theorem Els.belowB {α : Type} [Dat α] {xs : List α} {A : Option Addr} {B : Nat} (h : Els w S xs A) (hb : Below B w w') (hS : ∀ b, S b → b < B) : Els w' S xs A :=
  h.keep (fun _ hs _ => hb.cell (hS _ hs)) (fun _ h => h)
theorem Els.at_ {α : Type} [Dat α] {xs : List α} {A : Option Addr} (h : Els w S xs A) {k : Nat} {x : α} (hk : xs[k]? = some x) :
    ∃ b o cs, A = some ⟨b, o, none⟩ ∧ S b ∧ b < w.heap.size ∧ Dat.rd w S x cs ∧ At w b (o + k * Dat.size α) cs := by
  obtain ⟨b, o, hA, hb, hx⟩ := h (by rintro rfl; simp at hk)
  obtain ⟨cs, h1, h2⟩ := hx k x hk
  exact ⟨b, o, cs, hA, hb, h2.lt (by rw [Dat.len h1]; exact Dat.pos), h1, h2⟩
end

/-! ### Instances -/
instance instDatInt : Dat Int where
  size := 1
  wraps := false
  rd _ _ n cs := cs = [.int .i64 n] ∧ I64 n
  len h := by rw [h.1]; rfl
  pos := by decide
  flat _ := rfl
  one h := by rw [h.1]; intro u hu; simp at hu; subst hu; rfl
  keep _ _ h := h
instance instDatBool : Dat Bool where
  size := 1
  wraps := false
  rd _ _ n cs := cs = [.bool n]
  len h := by rw [h]; rfl
  pos := by decide
  flat _ := rfl
  one h := by rw [h]; intro u hu; simp at hu; subst hu; rfl
  keep _ _ h := h
instance instDatList {α : Type} [Dat α] : Dat (List α) where
  size := 1
  wraps := false
  rd w S xs cs := ∃ A c, cs = [.slice A xs.length c] ∧ xs.length ≤ c ∧ c ≤ maxLen ∧ Els w S xs A
  len h := by obtain ⟨A, c, rfl, _⟩ := h; rfl
  pos := by decide
  flat _ := rfl
  one h := by obtain ⟨A, c, rfl, _⟩ := h; intro u hu; simp at hu; subst hu; rfl
  keep hk hS h := by
    obtain ⟨A, c, h1, h2, h3, h4⟩ := h
    exact ⟨A, c, h1, h2, h3, h4.keep hk hS⟩

section
variable {w w' : World} {S S' : Nat → Prop} {b o : Nat}
theorem Vl.slice {α : Type} [Dat α] {xs : List α} {v : Value} (h : Vl w S xs v) : ∃ A c, v = .slice A xs.length c ∧ xs.length ≤ c ∧ c ≤ 9223372036854775807 ∧ Els w S xs A := by
  obtain ⟨cs, ⟨A, c, rfl, h2, h3, h4⟩, hv⟩ := h
  exact ⟨A, c, hv, h2, by simpa [maxLen] using h3, h4⟩
theorem Vl.of_slice {α : Type} [Dat α] {xs : List α} {A : Option Addr} {n c : Nat} (hn : n = xs.length) (h2 : xs.length ≤ c) (h3 : c ≤ 9223372036854775807) (h : Els w S xs A) : Vl w S xs (.slice A n c) :=
  ⟨_, ⟨A, c, rfl, h2, by simpa [maxLen] using h3, h⟩, by subst hn; rfl⟩
theorem Vl.els {α : Type} [Dat α] {w : World} {S : Nat → Prop} {xs : List α} {A : Option Addr} {n c : Nat} (h : Vl w S xs (.slice A n c)) : n = xs.length ∧ xs.length ≤ c ∧ c ≤ 9223372036854775807 ∧ Els w S xs A := by
  obtain ⟨A', c', e, h1, h2, h3⟩ := h.slice
  injection e with e1 e2 e3
  subst e1; subst e2; subst e3
  exact ⟨rfl, h1, h2, h3⟩
theorem Vl.nil {α : Type} [Dat α] : Vl w S ([] : List α) (.slice none 0 0) := Vl.of_slice rfl (by simp) (by omega) (fun h => absurd rfl h)
theorem Vl.int {n : Int} {v : Value} (h : Vl w S n v) : v = .int .i64 n ∧ I64 n := by
  obtain ⟨cs, ⟨rfl, h1⟩, hv⟩ := h
  exact ⟨hv, h1⟩
theorem Vl.of_int {n : Int} (h : I64 n) : Vl w S n (.int .i64 n) := ⟨[.int .i64 n], ⟨rfl, h⟩, rfl⟩
theorem Vl.bool {n : Bool} {v : Value} (h : Vl w S n v) : v = .bool n := by
  obtain ⟨cs, rfl, hv⟩ := h
  exact hv
theorem Vl.of_bool (n : Bool) : Vl w S n (.bool n) := ⟨[.bool n], rfl, rfl⟩
/-- A slice cell among the cells of a struct. -/
theorem rd_slice {α : Type} [Dat α] {xs : List α} {cs : List Value} (h : Dat.rd w S xs cs) : ∃ v, cs = [v] ∧ Vl w S xs v := by
  obtain ⟨A, c, rfl, h2, h3, h4⟩ := h
  exact ⟨_, rfl, _, ⟨A, c, rfl, h2, h3, h4⟩, rfl⟩
theorem rd_of_slice {α : Type} [Dat α] {xs : List α} {v : Value} (h : Vl w S xs v) : Dat.rd w S xs [v] := by
  obtain ⟨cs, ⟨A, c, rfl, h2, h3, h4⟩, hv⟩ := h
  exact ⟨A, c, by rw [hv]; rfl, h2, h3, h4⟩
end

/-! ### Rows that the call owns -/
/-- v is a slice of the call's own (nil, or in a block from base on, at its head) whose elements read as xs; what they lead to lies in S or in other blocks from base on. -/
def OwnT (S : Nat → Prop) (base : Nat) (v : Value) (w : World) (b : Nat) : Prop := (S b ∨ base ≤ b) ∧ v.ownBlock ≠ some b ∧ b < w.heap.size
def Own {α : Type} [Dat α] (w : World) (S : Nat → Prop) (base : Nat) (e : TypeId) (v : Value) (xs : List α) : Prop :=
  ∃ css : List (List Value), w.ownsRow base e (Dat.size α) v xs.length css.flatten ∧ css.length = xs.length ∧
    ∀ (i : Nat) (x : α) (cs : List Value), xs[i]? = some x → css[i]? = some cs → Dat.rd w (OwnT S base v w) x cs

theorem Own.nil {α : Type} [Dat α] (w : World) (S : Nat → Prop) (base : Nat) (e : TypeId) : Own w S base e (.slice none 0 0) ([] : List α) :=
  ⟨[], World.ownsRow_nil w base e _, rfl, fun i x cs h => by simp at h⟩

theorem flat_get {size : Nat} : ∀ (css : List (List Value)) (_ : ∀ cs ∈ css, cs.length = size) (i j : Nat) (cs : List Value) (u : Value), css[i]? = some cs → cs[j]? = some u → css.flatten[i * size + j]? = some u
  | [], _, i, j, cs, u, h, _ => by simp at h
  | c :: css, hl, 0, j, cs, u, h, hu => by
    simp at h
    subst h
    have hj := (List.getElem?_eq_some_iff.1 hu).1
    simp only [List.flatten_cons, Nat.zero_mul, Nat.zero_add]
    rw [List.getElem?_append_left hj]
    exact hu
  | c :: css, hl, i + 1, j, cs, u, h, hu => by
    have hc : c.length = size := hl c (by simp)
    have ih := flat_get css (fun cs hcs => hl cs (by simp [hcs])) i j cs u (by simpa using h) hu
    simp only [List.flatten_cons]
    rw [List.getElem?_append_right (by rw [hc, Nat.add_mul]; omega), hc, Nat.add_mul]
    rw [show i * size + 1 * size + j - size = i * size + j from by omega]
    exact ih

section
variable {w w' : World} {S S' : Nat → Prop} {base : Nat} {e : TypeId} {v : Value} {α : Type} [Dat α] {xs : List α}

theorem Own.block (h : Own w S base e v xs) : ∀ k, v.ownBlock = some k → base ≤ k ∧ k < w.heap.size := by
  obtain ⟨css, h1, _⟩ := h
  exact h1.lt
theorem Own.form (h : Own w S base e v xs) : ∃ A c, v = .slice A xs.length c ∧ xs.length ≤ c ∧ c ≤ 9223372036854775807 ∧ (xs = [] ∨ ∃ g, A = some ⟨g, 0, none⟩ ∧ base ≤ g ∧ g < w.heap.size) := by
  obtain ⟨css, h1, h2, _⟩ := h
  rcases h1.2 with ⟨rfl, hn⟩ | ⟨g, cap, cur, rfl, hg, hh, hnc, hcm, _⟩
  · refine ⟨none, 0, by rw [hn], by omega, by omega, .inl (List.eq_nil_of_length_eq_zero hn)⟩
  · exact ⟨_, cap, rfl, hnc, by simpa [maxLen] using hcm, .inr ⟨g, rfl, hg, (Array.getElem?_eq_some_iff.1 hh).1⟩⟩
/-- An own row reads as a slice. -/
theorem Own.vl (h : Own w S base e v xs) : Vl w (fun b => (S b ∨ base ≤ b) ∧ b < w.heap.size) xs v := by
  obtain ⟨css, h1, h2, h3⟩ := h
  have hcl : ∀ cs ∈ css, cs.length = Dat.size α := by
    intro cs hcs
    obtain ⟨i, hi, rfl⟩ := List.getElem_of_mem hcs
    have hx : xs[i]? = some (xs[i]'(by omega)) := List.getElem?_eq_getElem (by omega)
    exact Dat.len (h3 i _ _ hx (List.getElem?_eq_getElem hi))
  rcases h1.2 with ⟨rfl, hn⟩ | ⟨g, cap, cur, rfl, hg, hh, hnc, hcm, _⟩
  · have : xs = [] := List.eq_nil_of_length_eq_zero hn
    subst this
    exact Vl.nil
  · refine Vl.of_slice rfl hnc (by simpa [maxLen] using hcm) fun _ => ⟨g, 0, rfl, ⟨.inr hg, (Array.getElem?_eq_some_iff.1 hh).1⟩, fun i x hi => ?_⟩
    have hil : i < css.length := by have := (List.getElem?_eq_some_iff.1 hi).1; omega
    have hci : css[i]? = some css[i] := List.getElem?_eq_getElem hil
    refine ⟨css[i], Dat.keep (fun _ _ _ => rfl) (fun b hb => ⟨hb.1, hb.2.2⟩) (h3 i x _ hi hci), fun j u hu => ?_⟩
    have hf := flat_get css hcl i j _ u hci hu
    have hc := h1.cells (g := g) rfl _ _ hf
    have hadd : (⟨g, 0, none⟩ : Addr).add (i * Dat.size α + j) = ⟨g, 0 + i * Dat.size α + j, none⟩ := by
      unfold Addr.add
      split
      · rename_i h0; simp only [Nat.zero_add, h0]
      · simp only [Nat.zero_add]
    rw [← hadd]
    exact hc
/-- An own row's element, for a load. -/
theorem Own.at_ (h : Own w S base e v xs) {k : Nat} {x : α} (hk : xs[k]? = some x) : ∃ g c cs, v = .slice (some ⟨g, 0, none⟩) xs.length c ∧ base ≤ g ∧ g < w.heap.size ∧ Dat.rd w (OwnT S base v w) x cs ∧ At w g (k * Dat.size α) cs := by
  obtain ⟨css, h1, h2, h3⟩ := h
  have hcl : ∀ cs ∈ css, cs.length = Dat.size α := by
    intro cs hcs
    obtain ⟨i, hi, rfl⟩ := List.getElem_of_mem hcs
    have hx : xs[i]? = some (xs[i]'(by omega)) := List.getElem?_eq_getElem (by omega)
    exact Dat.len (h3 i _ _ hx (List.getElem?_eq_getElem hi))
  rcases h1.2 with ⟨rfl, hn⟩ | ⟨g, cap, cur, rfl, hg, hh, hnc, hcm, _⟩
  · have : xs = [] := List.eq_nil_of_length_eq_zero hn
    subst this
    simp at hk
  · have hil : k < css.length := by have := (List.getElem?_eq_some_iff.1 hk).1; omega
    have hci : css[k]? = some css[k] := List.getElem?_eq_getElem hil
    refine ⟨g, cap, css[k], rfl, hg, (Array.getElem?_eq_some_iff.1 hh).1, h3 k x _ hk hci, fun j u hu => ?_⟩
    have hf := flat_get css hcl k j _ u hci hu
    have hc := h1.cells (g := g) rfl _ _ hf
    have hadd : (⟨g, 0, none⟩ : Addr).add (k * Dat.size α + j) = ⟨g, k * Dat.size α + j, none⟩ := by
      unfold Addr.add
      split
      · rename_i h0; simp only [h0]
      · simp only [Nat.zero_add]
    rw [← hadd]
    exact hc
theorem Own.grown {row : Option Nat} (h : Own w S base e v xs) (hg : w.grownBy w' row) (hne : ∀ k, row = some k → v.ownBlock ≠ some k ∧ ¬ (S k ∨ base ≤ k)) : Own w' S base e v xs := by
  obtain ⟨css, h1, h2, h3⟩ := h
  refine ⟨css, h1.kept hg ?_, h2, fun i x cs hi hc => Dat.keep (fun p hp hlt => ?_) (fun b hb => ⟨hb.1, hb.2.1, Nat.lt_of_lt_of_le hb.2.2 hg.size⟩) (h3 i x cs hi hc)⟩
  · cases hv : v.ownBlock with
    | none => exact .inl rfl
    | some k => exact .inr (fun e => (hne k e.symm).1 hv)
  · exact World.cell?_of_block (hg.block p.block hlt (fun e => (hne _ e.symm).2 hp.1))
theorem Own.below {B : Nat} (h : Own w S base e v xs) (hb : Below B w w') (hB : w.heap.size ≤ B) : Own w' S base e v xs := by
  obtain ⟨css, h1, h2, h3⟩ := h
  refine ⟨css, h1.kept (row := none) ⟨hb.os, hb.tape, hb.output, hb.size, fun k hk _ => hb.block k (by omega)⟩ ?_, h2, fun i x cs hi hc => Dat.keep (fun p hp hlt => hb.cell (by omega)) (fun b hb' => ⟨hb'.1, hb'.2.1, Nat.lt_of_lt_of_le hb'.2.2 hb.size⟩) (h3 i x cs hi hc)⟩
  cases hv : v.ownBlock <;> simp
theorem Own.alloc (h : Own w S base e v xs) (o : Obj) : Own (w.alloc o) S base e v xs := h.below ((Below.refl w.heap.size w).alloc (Nat.le_refl _) o) (Nat.le_refl _)
theorem Own.drew (h : Own w S base e v xs) : Own w.drew S base e v xs := h.below ((Below.refl w.heap.size w).drew) (Nat.le_refl _)
/-- A store elsewhere: into a block that no element leads to. -/
theorem Own.setCell (h : Own w S base e v xs) {p : Addr} (hp : v.ownBlock ≠ some p.block) (hS : ¬ (S p.block ∨ base ≤ p.block)) (u : Value) : Own (w.setCell p u) S base e v xs :=
  h.grown (row := some p.block) ⟨rfl, rfl, rfl, by simp [World.setCell], fun k _ hk => Below.heap_setCell _ _ _ _ (fun e => hk (by rw [e]))⟩ (fun k hk => by cases hk; exact ⟨hp, hS⟩)
end

/-- What the program's tables say of the slice type t with elements e. -/
def ElemT (P : Program) (α : Type) [Dat α] (t e : TypeId) (bytes : Nat) : Prop :=
  ∃ i z, P.underlying t = some (.slice e) ∧ P.info? e = some i ∧ i.zero = some z ∧ i.size = Dat.size α ∧ i.bytes = bytes ∧ z.cells.size = Dat.size α

section
variable {P : Program} {w : World} {S : Nat → Prop} {base : Nat} {α : Type} [Dat α]

theorem own_snoc {e : TypeId} {v v' : Value} {w' : World} {xs : List α} {x : α} {css : List (List Value)} {cs : List Value}
    (h2 : css.length = xs.length) (h3 : ∀ (i : Nat) (x : α) (cs : List Value), xs[i]? = some x → css[i]? = some cs → Dat.rd w (OwnT S base v w) x cs)
    (hrd : Dat.rd w (OwnT S base v w) x cs) (hown : w'.ownsRow base e (Dat.size α) v' (xs.length + 1) (css.flatten ++ cs))
    (hg : w.grownBy w' v.ownBlock) (hat : v'.ownBlock = v.ownBlock ∨ v'.ownBlock = some w.heap.size) : Own w' S base e v' (xs ++ [x]) := by
  have hkeep : ∀ {y : α} {ds : List Value}, Dat.rd w (OwnT S base v w) y ds → Dat.rd w' (OwnT S base v' w') y ds := fun hy =>
    Dat.keep (fun p hp hlt => World.cell?_of_block (hg.block p.block hlt (fun e => hp.2.1 e.symm))) (fun b hb => ⟨hb.1, by
      rcases hat with e | e
      · rw [e]; exact hb.2.1
      · rw [e]; intro h; injection h with h; have := hb.2.2; omega, Nat.lt_of_lt_of_le hb.2.2 hg.size⟩) hy
  refine ⟨css ++ [cs], by simpa using hown, by simp [h2], fun i y ds hi hd => ?_⟩
  rcases Nat.lt_or_ge i xs.length with hlt | hge
  · rw [List.getElem?_append_left hlt] at hi
    rw [List.getElem?_append_left (by omega)] at hd
    exact hkeep (h3 i y ds hi hd)
  · have hi' : i = xs.length := by
      have := (List.getElem?_eq_some_iff.1 hi).1
      simp at this; omega
    subst hi'
    simp at hi
    rw [List.getElem?_append_right (by omega)] at hd
    simp [h2] at hd
    subst hi; subst hd
    exact hkeep hrd

/-- append of one element that lies at the head of a block of its own. -/
theorem run_own1 {t ty e : TypeId} {bytes : Nat} (hT : ElemT P α t e bytes) {v : Value} {xs : List α} {x : α} {cs : List Value} {g c : Nat} (hown : Own w S base e v xs)
    (hat : At w g 0 cs) (hrd : Dat.rd w (OwnT S base v w) x cs) (hlen : (xs.length + 1) * bytes ≤ 140737488355328) (hmax : xs.length + 1 ≤ 9223372036854775807) (hbase : base ≤ w.heap.size) :
    ∃ v' w', (Builtin.append_ #[t, t] ty #[v, .slice (some ⟨g, 0, none⟩) 1 c]).run P w = .ok v' w' ∧ Own w' S base e v' (xs ++ [x]) ∧ w.grownBy w' v.ownBlock ∧ (v'.ownBlock = v.ownBlock ∨ v'.ownBlock = some w.heap.size) := by
  obtain ⟨i, z, ht, hi, hz, hsize, hby, hzs⟩ := hT
  obtain ⟨css, h1, h2, h3⟩ := hown
  have hcl := Dat.len hrd
  obtain ⟨v', w', hr, ho, hg, _, h5⟩ := run_append_own_at (P := P) w base t ty e i z (Dat.size α) bytes ht hi hz hsize hby hzs Dat.pos v xs.length css.flatten h1 ⟨g, 0, none⟩ 1 c cs (by omega)
    (by intro j u hu; have h := hat j u hu; have hadd : (⟨g, 0, none⟩ : Addr).add j = ⟨g, 0 + j, none⟩ := by unfold Addr.add; split <;> simp_all
        rw [hadd]; exact h) (Dat.one hrd) (by simpa [maxLen] using hmax) hlen hbase
  exact ⟨v', w', hr, own_snoc h2 h3 hrd ho hg h5, hg, h5⟩
end

section
variable {P : Program} (w : World) {S : Nat → Prop} {base : Nat} {α : Type} [Dat α]
theorem wp_own1 {o : Oper} {a : Act} {K : Act → World → Prop} {Q : Exit → Act → World → Prop} (s xo : Operand) {t e : TypeId} {bytes : Nat} (hT : ElemT P α t e bytes)
    (ho : o.op = .call { callee := .builtin .append, args := #[s, xo], argTypes := #[t, t] })
    {v : Value} {xs : List α} (hs : a.eval s = v) (hown : Own w S base e v xs) (x : α) (cs : List Value) {g c : Nat} (hx : a.eval xo = .slice (some ⟨g, 0, none⟩) 1 c)
    (hat : At w g 0 cs) (hrd : Dat.rd w (OwnT S base v w) x cs) (hlen : (xs.length + 1) * bytes ≤ 140737488355328) (hmax : xs.length + 1 ≤ 9223372036854775807) (hbase : base ≤ w.heap.size)
    (h : ∀ v' w', Own w' S base e v' (xs ++ [x]) → w.grownBy w' v.ownBlock → (v'.ownBlock = v.ownBlock ∨ v'.ownBlock = some w.heap.size) → K (a.put o.dst v') w') : o.wp P a w K Q := by
  obtain ⟨v', w', hrun, h2, h3, h4⟩ := run_own1 (ty := o.type) (c := c) hT hown hat hrd hlen hmax hbase
  unfold Oper.wp execOp
  simp only [ho, resolve, invoke, builtin, Sem.run_bind, Sem.run_pure, Result.andThen_ok, List.map_toArray, List.map_cons, List.map_nil, hs, hx, hrun]
  exact h v' w' h2 h3 h4
theorem wpList_own1 {ops : Array Oper} {rest : List Oper} {o : Oper} {a : Act} {Q : Exit → Act → World → Prop} (hgd : o.guard = none) (s xo : Operand) {t e : TypeId} {bytes : Nat} (hT : ElemT P α t e bytes)
    (ho : o.op = .call { callee := .builtin .append, args := #[s, xo], argTypes := #[t, t] })
    {v : Value} {xs : List α} (hs : a.eval s = v) (hown : Own w S base e v xs) (x : α) (cs : List Value) {g c : Nat} (hx : a.eval xo = .slice (some ⟨g, 0, none⟩) 1 c)
    (hat : At w g 0 cs) (hrd : Dat.rd w (OwnT S base v w) x cs) (hlen : (xs.length + 1) * bytes ≤ 140737488355328) (hmax : xs.length + 1 ≤ 9223372036854775807) (hbase : base ≤ w.heap.size)
    (h : ∀ v' w', Own w' S base e v' (xs ++ [x]) → w.grownBy w' v.ownBlock → (v'.ownBlock = v.ownBlock ∨ v'.ownBlock = some w.heap.size) → wpList P ops Q rest (a.put o.dst v') w') : wpList P ops Q (o :: rest) a w :=
  wpList_plain hgd fun _ hK => wp_own1 w s xo hT ho hs hown x cs hx hat hrd hlen hmax hbase fun v' w' h2 h3 h4 => hK _ _ (h v' w' h2 h3 h4)
theorem step_own1 {ops : Array Oper} {o : Oper} {a : Act} {K : Act → World → Prop} {Q : Exit → Act → World → Prop} {E : Prop} (hgd : o.guard = none) (s xo : Operand) {t e : TypeId} {bytes : Nat} (hT : ElemT P α t e bytes)
    (ho : o.op = .call { callee := .builtin .append, args := #[s, xo], argTypes := #[t, t] })
    {v : Value} {xs : List α} (hs : a.eval s = v) (hown : Own w S base e v xs) (x : α) (cs : List Value) {g c : Nat} (hx : a.eval xo = .slice (some ⟨g, 0, none⟩) 1 c)
    (hat : At w g 0 cs) (hrd : Dat.rd w (OwnT S base v w) x cs) (hlen : (xs.length + 1) * bytes ≤ 140737488355328) (hmax : xs.length + 1 ≤ 9223372036854775807) (hbase : base ≤ w.heap.size)
    (h : ∀ v' w', Own w' S base e v' (xs ++ [x]) → w.grownBy w' v.ownBlock → (v'.ownBlock = v.ownBlock ∨ v'.ownBlock = some w.heap.size) → K (a.put o.dst v') w') :
    if Region.wanted o (yielded ops a.tmps) = true then Oper.wp P o a w K Q else E := by
  have hw : Region.wanted o (yielded ops a.tmps) = true := by simp [Region.wanted, hgd]
  rw [if_pos hw]
  exact wp_own1 w s xo hT ho hs hown x cs hx hat hrd hlen hmax hbase h
end

theorem bcell {W w1 : World} {n : Nat} (hb : Below n W w1) : (∀ b o, b < n → w1.cell? ⟨b, o, none⟩ = W.cell? ⟨b, o, none⟩) ∧ (∀ b o, b < n → w1.frozen? ⟨b, o, none⟩ = W.frozen? ⟨b, o, none⟩) :=
  ⟨fun b o h => hb.cell (p := ⟨b, o, none⟩) h, fun b o h => hb.frozen (p := ⟨b, o, none⟩) h⟩
theorem bdrewN {B n : Nat} {a w : World} (h : Below B a w) : Below B a (w.drewN n) := ⟨h.os, h.tape, h.output, h.size, h.block⟩
/-- A block that is known whole. -/
def Blk' (w : World) (g : Nat) (t : TypeId) (cs : Array Value) : Prop := w.heap[g]? = some (.cells cs t (0, 0))
section
variable {w w' : World} {g : Nat} {t : TypeId} {cs : Array Value}
theorem Blk'.lt (h : Blk' w g t cs) : g < w.heap.size := by
  rcases Nat.lt_or_ge g w.heap.size with hlt | hge
  · exact hlt
  · unfold Blk' at h; rw [Array.getElem?_eq_none hge] at h; cases h
theorem Blk'.cell (h : Blk' w g t cs) (i : Nat) : w.cell? ⟨g, i, none⟩ = cs[i]? := cell_of_row w g i cs t (0, 0) h
theorem Blk'.frozen (h : Blk' w g t cs) (i : Nat) : w.frozen? ⟨g, i, none⟩ = false := by
  unfold Blk' at h
  simp [World.frozen?, h]
theorem Blk'.new (w : World) (t : TypeId) (cs : Array Value) : Blk' (w.alloc (.cells cs t)) w.heap.size t cs := heap_alloc_new w _
theorem Blk'.new' (w : World) (t : TypeId) (cs : Array Value) (h : g = w.heap.size) : Blk' (w.alloc (.cells cs t)) g t cs := by subst h; exact heap_alloc_new w _
theorem Blk'.drew (h : Blk' w g t cs) : Blk' w.drew g t cs := h
theorem Blk'.drewN (h : Blk' w g t cs) (n : Nat) : Blk' (w.drewN n) g t cs := h
theorem Blk'.alloc (h : Blk' w g t cs) (o : Obj) : Blk' (w.alloc o) g t cs := (Below.heap_alloc w o g h.lt).trans h
theorem Blk'.set_ (h : Blk' w g t cs) (i : Nat) (u : Value) : Blk' (w.setCell ⟨g, i, none⟩ u) g t (cs.setIfInBounds i u) := by
  unfold Blk' at h ⊢
  simp [World.setCell, Array.getElem?_modify, h]
theorem Blk'.far (h : Blk' w g t cs) {p : Addr} (hp : g ≠ p.block) (u : Value) : Blk' (w.setCell p u) g t cs := (Below.heap_setCell w p u g hp).trans h
theorem Blk'.below {B : Nat} (h : Blk' w g t cs) (hb : Below B w w') (hg : g < B) : Blk' w' g t cs := (hb.block g hg).trans h
theorem Blk'.grown {row : Option Nat} (h : Blk' w g t cs) (hb : w.grownBy w' row) (hg : some g ≠ row) : Blk' w' g t cs := (hb.block g h.lt hg).trans h
theorem only_drew {row : Option Nat} {a : World} (h : a.grownBy w row) : a.grownBy w.drew row := ⟨h.os, h.tape, h.output, h.size, h.block⟩
theorem only_drewN {row : Option Nat} {a : World} (h : a.grownBy w row) (n : Nat) : a.grownBy (w.drewN n) row := ⟨h.os, h.tape, h.output, h.size, h.block⟩
theorem only_alloc {row : Option Nat} {a : World} (h : a.grownBy w row) (o : Obj) : a.grownBy (w.alloc o) row :=
  ⟨h.os, h.tape, h.output, Nat.le_trans h.size (by simp), fun i hi hne => (Below.heap_alloc w o i (Nat.lt_of_lt_of_le hi h.size)).trans (h.block i hi hne)⟩
theorem only_setCell {row : Option Nat} {a : World} (h : a.grownBy w row) {p : Addr} (hp : row = some p.block ∨ a.heap.size ≤ p.block) (u : Value) : a.grownBy (w.setCell p u) row :=
  ⟨h.os, h.tape, h.output, by simpa [World.setCell] using h.size, fun i hi hne => (Below.heap_setCell w p u i (by
    rintro rfl
    rcases hp with hp | hp
    · exact hne (by rw [hp])
    · omega)).trans (h.block i hi hne)⟩
/-- A later step that turns only blocks that came after a, or the row. -/
theorem only_then {row row' : Option Nat} {a : World} (h : a.grownBy w row) (k : w.grownBy w' row') (hr : row' = row ∨ ∀ i, row' = some i → a.heap.size ≤ i) : a.grownBy w' row :=
  ⟨k.os.trans h.os, k.tape.trans h.tape, k.output.trans h.output, Nat.le_trans h.size k.size, fun i hi hne => (k.block i (Nat.lt_of_lt_of_le hi h.size) (by
    rcases hr with rfl | hr
    · exact hne
    · intro e; have := hr i e.symm; omega)).trans (h.block i hi hne)⟩
theorem only_below {row : Option Nat} {a : World} {B : Nat} (h : a.grownBy w row) (k : Below B w w') (hB : a.heap.size ≤ B) : a.grownBy w' row :=
  ⟨k.os.trans h.os, k.tape.trans h.tape, k.output.trans h.output, Nat.le_trans h.size k.size, fun i hi hne => (k.block i (by omega)).trans (h.block i hi hne)⟩
end
theorem bundrew {B : Nat} {a w : World} (h : Below B a.drew w) : Below B a w := ⟨h.os, h.tape, h.output, h.size, h.block⟩
theorem bundrewN {B n : Nat} {a w : World} (h : Below B (a.drewN n) w) : Below B a w := ⟨h.os, h.tape, h.output, h.size, h.block⟩
theorem bthen {B n : Nat} {a w w' : World} (h : Below B a w) (k : Below n w w') (hn : B ≤ n) : Below B a w' := h.trans (k.mono hn)
/-- What a grownBy leaves of Below. -/
theorem bgrown {B : Nat} {a w w' : World} {v : Value} {S : Nat → Prop} {base : Nat} {e : TypeId} {α : Type} [Dat α] {xs : List α} (h : Below B a w) (hg : w.grownBy w' v.ownBlock) (hown : Own w S base e v xs) (hB : B ≤ base) (hs : B ≤ w.heap.size) : Below B a w' :=
  h.grown hg hs (fun k hk => Nat.le_trans hB (hown.block k hk).1)
end Go.Proofs.YtaidadjekfcacaaDoor

/- The program's data as plain Lean data, and how they read in memory. -/
namespace Go.Proofs.YtaidadjekfcacaaDoor
open Go.RowKit

structure Sym where
  term : Bool
  n : Int
  deriving DecidableEq, Repr
structure Rule where
  left : Int
  right : List Sym
  deriving DecidableEq, Repr
structure Gram where
  terms : Int
  nons : Int
  start : Int
  rules : List Rule
  deriving DecidableEq, Repr
inductive Tree where
  | mk (rule term : Int) (kids : List Tree)
def Tree.rule : Tree → Int | ⟨r, _, _⟩ => r
def Tree.term : Tree → Int | ⟨_, t, _⟩ => t
def Tree.kids : Tree → List Tree | ⟨_, _, ks⟩ => ks

instance instDatSym : Dat Sym where
  size := 2
  wraps := true
  rd _ _ s cs := cs = [.bool s.term, .int .i64 s.n] ∧ I64 s.n
  len h := by rw [h.1]; rfl
  pos := by decide
  flat h := by simp at h
  one h := by rw [h.1]; intro u hu; simp at hu; rcases hu with rfl | rfl <;> rfl
  keep _ _ h := h
instance instDatRule : Dat Rule where
  size := 2
  wraps := true
  rd w S r cs := ∃ v, cs = [.int .i64 r.left, v] ∧ I64 r.left ∧ Vl w S r.right v
  len h := by obtain ⟨v, rfl, _⟩ := h; rfl
  pos := by decide
  flat h := by simp at h
  one h := by
    obtain ⟨v, rfl, _, hv⟩ := h
    obtain ⟨A, c, rfl, _⟩ := hv.slice
    intro u hu; simp at hu; rcases hu with rfl | rfl <;> rfl
  keep hk hS h := by obtain ⟨v, h1, h2, h3⟩ := h; exact ⟨v, h1, h2, h3.keep hk hS⟩
instance instDatGram : Dat Gram where
  size := 4
  wraps := true
  rd w S g cs := ∃ v, cs = [.int .i64 g.terms, .int .i64 g.nons, .int .i64 g.start, v] ∧ I64 g.terms ∧ I64 g.nons ∧ I64 g.start ∧ Vl w S g.rules v
  len h := by obtain ⟨v, rfl, _⟩ := h; rfl
  pos := by decide
  flat h := by simp at h
  one h := by
    obtain ⟨v, rfl, _, _, _, hv⟩ := h
    obtain ⟨A, c, rfl, _⟩ := hv.slice
    intro u hu; simp at hu; rcases hu with rfl | rfl | rfl | rfl <;> rfl
  keep hk hS h := by obtain ⟨v, h1, h2, h3, h4, h5⟩ := h; exact ⟨v, h1, h2, h3, h4, h5.keep hk hS⟩

/-! Trees: the reading by recursion. -/
mutual
def rdT (w : World) (S : Nat → Prop) : Tree → List Value → Prop
  | ⟨r, t, ks⟩, cs => I64 r ∧ I64 t ∧ ∃ A c, cs = [.int .i64 r, .int .i64 t, .slice A ks.length c] ∧ ks.length ≤ c ∧ c ≤ maxLen ∧ (ks ≠ [] → ∃ b o, A = some ⟨b, o, none⟩ ∧ S b ∧ rdTs w S ks b o)
def rdTs (w : World) (S : Nat → Prop) : List Tree → Nat → Nat → Prop
  | [], _, _ => True
  | k :: ks, b, o => (∃ cs, rdT w S k cs ∧ At w b o cs) ∧ rdTs w S ks b (o + 3)
end
theorem rdT_len {w : World} {S : Nat → Prop} {t : Tree} {cs : List Value} (h : rdT w S t cs) : cs.length = 3 := by
  cases t with
  | mk r t ks => unfold rdT at h; obtain ⟨_, _, A, c, rfl, _⟩ := h; rfl
theorem rdTs_iff {w : World} {S : Nat → Prop} : ∀ (ks : List Tree) (b o : Nat), rdTs w S ks b o ↔ ∀ (i : Nat) (x : Tree), ks[i]? = some x → ∃ cs, rdT w S x cs ∧ At w b (o + i * 3) cs
  | [], b, o => by simp [rdTs]
  | k :: ks, b, o => by
    rw [rdTs, rdTs_iff ks]
    constructor
    · rintro ⟨h1, h2⟩ i x hi
      match i with
      | 0 => simp at hi; subst hi; simpa using h1
      | i + 1 =>
        have := h2 i x (by simpa using hi)
        rw [show o + (i + 1) * 3 = o + 3 + i * 3 from by omega]
        exact this
    · intro h
      refine ⟨by simpa using h 0 k rfl, fun i x hi => ?_⟩
      have := h (i + 1) x (by simpa using hi)
      rw [show o + 3 + i * 3 = o + (i + 1) * 3 from by omega]
      exact this
mutual
theorem rdT_keep {w w' : World} {S S' : Nat → Prop} (hk : ∀ p : Addr, S p.block → p.block < w.heap.size → w'.cell? p = w.cell? p) (hS : ∀ b, S b → S' b) : ∀ (t : Tree) (cs : List Value), rdT w S t cs → rdT w' S' t cs
  | ⟨r, t, ks⟩, cs, h => by
    unfold rdT at h ⊢
    obtain ⟨h1, h2, A, c, h3, h4, h5, h6⟩ := h
    refine ⟨h1, h2, A, c, h3, h4, h5, fun hne => ?_⟩
    obtain ⟨b, o, hA, hb, hks⟩ := h6 hne
    exact ⟨b, o, hA, hS _ hb, rdTs_keep hk hS ks b o hb hks⟩
theorem rdTs_keep {w w' : World} {S S' : Nat → Prop} (hk : ∀ p : Addr, S p.block → p.block < w.heap.size → w'.cell? p = w.cell? p) (hS : ∀ b, S b → S' b) : ∀ (ks : List Tree) (b o : Nat), S b → rdTs w S ks b o → rdTs w' S' ks b o
  | [], _, _, _, _ => by simp [rdTs]
  | k :: ks, b, o, hb, h => by
    rw [rdTs] at h ⊢
    obtain ⟨⟨cs, h1, h2⟩, h3⟩ := h
    have hlt : b < w.heap.size := h2.lt (by rw [rdT_len h1]; decide)
    exact ⟨⟨cs, rdT_keep hk hS k cs h1, h2.keep fun p hp => hk p (hp ▸ hb) (hp ▸ hlt)⟩, rdTs_keep hk hS ks b (o + 3) hb h3⟩
end
instance instDatTree : Dat Tree where
  size := 3
  wraps := true
  rd := rdT
  len := rdT_len
  pos := by decide
  flat h := by simp at h
  one {w S t cs} h := by
    cases t with
    | mk r t ks =>
      unfold rdT at h; obtain ⟨_, _, A, c, rfl, _⟩ := h
      intro u hu; simp at hu; rcases hu with rfl | rfl | rfl <;> rfl
  keep hk hS h := rdT_keep hk hS _ _ h
theorem rd_tree {w : World} {S : Nat → Prop} {t : Tree} {cs : List Value} : Dat.rd w S t cs ↔ ∃ v, cs = [.int .i64 t.rule, .int .i64 t.term, v] ∧ I64 t.rule ∧ I64 t.term ∧ Vl w S t.kids v := by
  cases t with
  | mk r t ks =>
    show rdT w S _ cs ↔ _
    unfold rdT
    constructor
    · rintro ⟨h1, h2, A, c, rfl, h4, h5, h6⟩
      refine ⟨_, rfl, h1, h2, Vl.of_slice rfl h4 (by simpa [maxLen] using h5) fun hne => ?_⟩
      obtain ⟨b, o, hA, hb, hks⟩ := h6 hne
      exact ⟨b, o, hA, hb, (rdTs_iff _ _ _).1 hks⟩
    · rintro ⟨v, rfl, h1, h2, hv⟩
      obtain ⟨A, c, rfl, h4, h5, h6⟩ := hv.slice
      refine ⟨h1, h2, A, c, rfl, h4, by simpa [maxLen] using h5, fun hne => ?_⟩
      obtain ⟨b, o, hA, hb, hks⟩ := h6 hne
      exact ⟨b, o, hA, hb, (rdTs_iff _ _ _).2 hks⟩

section
variable {w : World} {S : Nat → Prop}
theorem Vl.sym {s : Sym} {v : Value} (h : Vl w S s v) : v = .agg #[.bool s.term, .int .i64 s.n] ∧ I64 s.n := by
  obtain ⟨cs, ⟨rfl, h1⟩, hv⟩ := h
  exact ⟨hv, h1⟩
theorem Vl.of_sym {s : Sym} (h : I64 s.n) : Vl w S s (.agg #[.bool s.term, .int .i64 s.n]) := ⟨_, ⟨rfl, h⟩, rfl⟩
theorem Vl.rule {r : Rule} {v : Value} (h : Vl w S r v) : ∃ s, v = .agg #[.int .i64 r.left, s] ∧ I64 r.left ∧ Vl w S r.right s := by
  obtain ⟨cs, ⟨s, rfl, h1, h2⟩, hv⟩ := h
  exact ⟨s, hv, h1, h2⟩
theorem Vl.of_rule {r : Rule} {s : Value} (h1 : I64 r.left) (h2 : Vl w S r.right s) : Vl w S r (.agg #[.int .i64 r.left, s]) := ⟨_, ⟨s, rfl, h1, h2⟩, rfl⟩
theorem Vl.gram {g : Gram} {v : Value} (h : Vl w S g v) : ∃ s, v = .agg #[.int .i64 g.terms, .int .i64 g.nons, .int .i64 g.start, s] ∧ I64 g.terms ∧ I64 g.nons ∧ I64 g.start ∧ Vl w S g.rules s := by
  obtain ⟨cs, ⟨s, rfl, h1, h2, h3, h4⟩, hv⟩ := h
  exact ⟨s, hv, h1, h2, h3, h4⟩
theorem Vl.of_gram {g : Gram} {s : Value} (h1 : I64 g.terms) (h2 : I64 g.nons) (h3 : I64 g.start) (h4 : Vl w S g.rules s) : Vl w S g (.agg #[.int .i64 g.terms, .int .i64 g.nons, .int .i64 g.start, s]) := ⟨_, ⟨s, rfl, h1, h2, h3, h4⟩, rfl⟩
theorem Vl.tree {t : Tree} {v : Value} (h : Vl w S t v) : ∃ s, v = .agg #[.int .i64 t.rule, .int .i64 t.term, s] ∧ I64 t.rule ∧ I64 t.term ∧ Vl w S t.kids s := by
  obtain ⟨cs, hr, hv⟩ := h
  obtain ⟨s, rfl, h1, h2, h3⟩ := rd_tree.1 hr
  exact ⟨s, hv, h1, h2, h3⟩
theorem Vl.of_tree {t : Tree} {s : Value} (h1 : I64 t.rule) (h2 : I64 t.term) (h3 : Vl w S t.kids s) : Vl w S t (.agg #[.int .i64 t.rule, .int .i64 t.term, s]) := ⟨_, rd_tree.2 ⟨s, rfl, h1, h2, h3⟩, rfl⟩
end

/-! The elements of a slice, for a walk: the cells as the walk spells their addresses. -/
section
variable {w : World} {S : Nat → Prop} {A : Option Addr} {k : Nat}
theorem Els.int {xs : List Int} {x : Int} (h : Els w S xs A) (hk : xs[k]? = some x) : ∃ b o, A = some ⟨b, o, none⟩ ∧ S b ∧ b < w.heap.size ∧ I64 x ∧ w.cell? ⟨b, o + k, none⟩ = some (.int .i64 x) := by
  obtain ⟨b, o, cs, hA, hS, hb, ⟨rfl, h1⟩, hc⟩ := h.at_ hk
  exact ⟨b, o, hA, hS, hb, h1, by have h := hc.c0; rwa [show o + k * Dat.size Int = o + k from by show o + k * 1 = _; omega] at h⟩
theorem Els.bool {xs : List Bool} {x : Bool} (h : Els w S xs A) (hk : xs[k]? = some x) : ∃ b o, A = some ⟨b, o, none⟩ ∧ S b ∧ b < w.heap.size ∧ w.cell? ⟨b, o + k, none⟩ = some (.bool x) := by
  obtain ⟨b, o, cs, hA, hS, hb, rfl, hc⟩ := h.at_ hk
  exact ⟨b, o, hA, hS, hb, by have h := hc.c0; rwa [show o + k * Dat.size Bool = o + k from by show o + k * 1 = _; omega] at h⟩
theorem Els.list {α : Type} [Dat α] {xs : List (List α)} {x : List α} (h : Els w S xs A) (hk : xs[k]? = some x) : ∃ b o A' c, A = some ⟨b, o, none⟩ ∧ S b ∧ b < w.heap.size ∧ x.length ≤ c ∧ c ≤ 9223372036854775807 ∧ Els w S x A' ∧ w.cell? ⟨b, o + k, none⟩ = some (.slice A' x.length c) := by
  obtain ⟨b, o, cs, hA, hS, hb, ⟨A', c, rfl, h2, h3, h4⟩, hc⟩ := h.at_ hk
  exact ⟨b, o, A', c, hA, hS, hb, h2, by simpa [maxLen] using h3, h4, by have h := hc.c0; rwa [show o + k * Dat.size (List α) = o + k from by show o + k * 1 = _; omega] at h⟩
theorem Els.sym {xs : List Sym} {x : Sym} (h : Els w S xs A) (hk : xs[k]? = some x) :
    ∃ b o, A = some ⟨b, o, none⟩ ∧ S b ∧ b < w.heap.size ∧ I64 x.n ∧ w.cell? ⟨b, o + k * 2, none⟩ = some (.bool x.term) ∧ w.cell? ⟨b, o + k * 2 + 1, none⟩ = some (.int .i64 x.n) := by
  obtain ⟨b, o, cs, hA, hS, hb, ⟨rfl, h1⟩, hc⟩ := h.at_ hk
  exact ⟨b, o, hA, hS, hb, h1, hc.c0, hc.c1⟩
theorem Els.rule {xs : List Rule} {x : Rule} (h : Els w S xs A) (hk : xs[k]? = some x) :
    ∃ b o A' c, A = some ⟨b, o, none⟩ ∧ S b ∧ b < w.heap.size ∧ I64 x.left ∧ x.right.length ≤ c ∧ c ≤ 9223372036854775807 ∧ Els w S x.right A' ∧ w.cell? ⟨b, o + k * 2, none⟩ = some (.int .i64 x.left) ∧ w.cell? ⟨b, o + k * 2 + 1, none⟩ = some (.slice A' x.right.length c) := by
  obtain ⟨b, o, cs, hA, hS, hb, ⟨v, rfl, h1, hv⟩, hc⟩ := h.at_ hk
  obtain ⟨A', c, rfl, h2, h3, h4⟩ := hv.slice
  exact ⟨b, o, A', c, hA, hS, hb, h1, h2, h3, h4, hc.c0, hc.c1⟩
theorem Els.tree {xs : List Tree} {x : Tree} (h : Els w S xs A) (hk : xs[k]? = some x) :
    ∃ b o A' c, A = some ⟨b, o, none⟩ ∧ S b ∧ b < w.heap.size ∧ I64 x.rule ∧ I64 x.term ∧ x.kids.length ≤ c ∧ c ≤ 9223372036854775807 ∧ Els w S x.kids A' ∧ w.cell? ⟨b, o + k * 3, none⟩ = some (.int .i64 x.rule) ∧ w.cell? ⟨b, o + k * 3 + 1, none⟩ = some (.int .i64 x.term) ∧ w.cell? ⟨b, o + k * 3 + 1 + 1, none⟩ = some (.slice A' x.kids.length c) := by
  obtain ⟨b, o, cs, hA, hS, hb, hr, hc⟩ := h.at_ hk
  obtain ⟨v, rfl, h1, h1', hv⟩ := rd_tree.1 hr
  obtain ⟨A', c, rfl, h2, h3, h4⟩ := hv.slice
  exact ⟨b, o, A', c, hA, hS, hb, h1, h1', h2, h3, h4, hc.c0, hc.c1, hc.d2⟩
end
end Go.Proofs.YtaidadjekfcacaaDoor

/- From the form's reading of an argument to plain data: what a reading gives, type by type, and how much of the bound it takes. -/
namespace Go.Proofs.YtaidadjekfcacaaDoor
open Go.RowKit Go.ChangeShapes Go.WideShapes Go.Deep

class Blk (α : Type) where
  blk : α → Nat
instance instBlkInt : Blk Int := ⟨fun _ => 1⟩
instance instBlkBool : Blk Bool := ⟨fun _ => 1⟩
def blkAll {α : Type} [Blk α] : List α → Nat
  | [] => 0
  | x :: xs => Blk.blk x + blkAll xs
instance instBlkList {α : Type} [Blk α] : Blk (List α) := ⟨fun l => blkAll l + 1⟩
instance instBlkSym : Blk Sym := ⟨fun _ => 3⟩
instance instBlkRule : Blk Rule := ⟨fun r => 2 + Blk.blk r.right⟩
instance instBlkGram : Blk Gram := ⟨fun g => 4 + Blk.blk g.rules⟩
mutual
def blkTree : Tree → Nat
  | ⟨_, _, ks⟩ => 3 + blkTrees ks + 1
def blkTrees : List Tree → Nat
  | [] => 0
  | k :: ks => blkTree k + blkTrees ks
end
instance instBlkTree : Blk Tree := ⟨blkTree⟩
theorem blkTrees_eq : ∀ ks : List Tree, blkTrees ks = blkAll ks
  | [] => rfl
  | k :: ks => by rw [blkTrees, blkAll, blkTrees_eq ks]; rfl

def OldS (w : World) (b : Nat) : Prop := b < w.heap.size
/-- What the type t reads as. -/
def Opens (P : Program) (α : Type) [Dat α] [Blk α] (t : TypeId) : Prop :=
  ∀ {H : Type} (enc : TypeId × Value → H) (w : World) (base : Nat) (spare : Nat → Bool) (held : Bool) (fuel : Nat) (cs : List Value) (y : DataW H × List MemPlace),
    DataW.trod enc P w base spare held fuel t cs = some y → ∃ x : α, Dat.rd w (OldS w) x cs ∧ Blk.blk x ≤ Rows.uptoBulk y.1

theorem i64_of_wf {n : Int} (h : (Lit.int .i64 n).wf = true) : I64 n := by
  simpa [Lit.wf, IntKind.min, IntKind.max, IntKind.signed, IntKind.bits, I64] using h

section
variable {P : Program}
theorem opens_int {t : TypeId} (ht : P.underlying t = some (.int .i64)) : Opens P Int t := by
  intro H enc w base spare held fuel cs y h
  obtain ⟨n, rfl, rfl, hw⟩ := DataW.trod_int ht h
  exact ⟨n, ⟨rfl, i64_of_wf hw⟩, by simp [Rows.uptoBulk, Blk.blk]⟩
theorem opens_bool {t : TypeId} (ht : P.underlying t = some .bool) : Opens P Bool t := by
  intro H enc w base spare held fuel cs y h
  obtain ⟨n, rfl, rfl⟩ := DataW.trod_bool ht h
  exact ⟨n, rfl, by simp [Rows.uptoBulk, Blk.blk]⟩

theorem list_of_lt {α : Type} {R : Nat → α → Prop} : ∀ (n : Nat), (∀ i, i < n → ∃ x, R i x) → ∃ xs : List α, xs.length = n ∧ ∀ (i : Nat) (x : α), xs[i]? = some x → R i x
  | 0, _ => ⟨[], rfl, by simp⟩
  | n + 1, h => by
    obtain ⟨xs, hl, hx⟩ := list_of_lt n (fun i hi => h i (by omega))
    obtain ⟨x, hr⟩ := h n (by omega)
    refine ⟨xs ++ [x], by simp [hl], fun i y hi => ?_⟩
    rcases Nat.lt_or_ge i xs.length with h1 | h1
    · rw [List.getElem?_append_left h1] at hi; exact hx i y hi
    · have h2 : i = n := by have := (List.getElem?_eq_some_iff.1 hi).1; simp at this; omega
      subst h2
      rw [List.getElem?_append_right h1] at hi
      simp [hl] at hi
      subst hi; exact hr
theorem bulkAll_range {H : Type} {α : Type} [Blk α] (D : Nat → DataW H) : ∀ (xs : List α) (s : Nat), (∀ (i : Nat) (x : α), xs[i]? = some x → Blk.blk x ≤ Rows.uptoBulk (D (s + i))) → blkAll xs ≤ Rows.uptoBulkAll ((List.range' s xs.length).map D)
  | [], _, _ => by simp [blkAll]
  | x :: xs, s, h => by
    have h0 := h 0 x rfl
    have ih := bulkAll_range D xs (s + 1) (fun i y hi => by have := h (i + 1) y (by simpa using hi); rwa [show s + (i + 1) = s + 1 + i from by omega] at this)
    simp only [List.length_cons, List.range'_succ, List.map_cons, blkAll, Rows.uptoBulkAll]
    simp only [Nat.add_zero] at h0
    omega
theorem addr_add {b o n : Nat} : (⟨b, o, none⟩ : Addr).add n = ⟨b, o + n, none⟩ := by unfold Addr.add; split <;> simp_all
theorem els_of_cells {α : Type} [Dat α] {w : World} {base : Nat} {a : Addr} {len : Nat} {xs : List α} (_hl : xs.length = len)
    (h : ∀ (i : Nat) (x : α), xs[i]? = some x → ∃ cs, w.cells? base (a.add (i * Dat.size α)) (Dat.size α) = some cs ∧ Dat.rd w (OldS w) x cs) : Els w (OldS w) xs (some a) := by
  intro hne
  obtain ⟨x0, hx0⟩ : ∃ x, xs[0]? = some x := ⟨_, List.getElem?_eq_getElem (List.length_pos_iff.2 hne)⟩
  have hcell : ∀ (i : Nat) (x : α), xs[i]? = some x → ∃ cs, Dat.rd w (OldS w) x cs ∧ ∀ j u, cs[j]? = some u → w.cell? ((a.add (i * Dat.size α)).add j) = some u := by
    intro i x hi
    obtain ⟨cs, h1, h2⟩ := h i x hi
    obtain ⟨_, hcl, hat⟩ := World.cells?_some h1
    exact ⟨cs, h2, fun j u hu => (hat j (by have := (List.getElem?_eq_some_iff.1 hu).1; rwa [Dat.len h2] at this)).trans hu⟩
  obtain ⟨cs0, h1, h2⟩ := hcell 0 x0 hx0
  have hp : 0 < cs0.length := by rw [Dat.len h1]; exact Dat.pos
  have hc0 := h2 0 cs0[0] (List.getElem?_eq_getElem hp)
  have ha0 : (a.add (0 * Dat.size α)).add 0 = a := by simp [Addr.add]
  rw [ha0] at hc0
  obtain ⟨b, o, spot⟩ := a
  have hspot : spot = none := by simpa using World.cell?_spot hc0
  subst hspot
  have hb : b < w.heap.size := World.block_lt_of_cell? w _ hc0
  refine ⟨b, o, rfl, hb, fun i x hi => ?_⟩
  obtain ⟨cs, h3, h4⟩ := hcell i x hi
  exact ⟨cs, h3, fun j u hu => by have := h4 j u hu; rwa [addr_add, addr_add] at this⟩
theorem opens_slice {α : Type} [Dat α] [Blk α] {t e : TypeId} (ht : P.underlying t = some (.slice e)) (hC : P.cellsOf e = Dat.size α) (he : Opens P α e) : Opens P (List α) t := by
  intro H enc w base spare held fuel cs y h
  rcases open_slice ht h with ⟨rfl, rfl⟩ | ⟨a, len, cap, m, n, D, Pl, rfl, hb, hl, hm, hmm, rfl, hi⟩
  · exact ⟨[], ⟨none, 0, rfl, by simp, by simp, fun h => absurd rfl h⟩, by simp [Rows.uptoBulk, Blk.blk, blkAll]⟩
  · have hlm : len ≤ m := by rw [hmm]; split <;> omega
    obtain ⟨xs, hxl, hx⟩ := list_of_lt (R := fun i (x : α) => (∃ cs, w.cells? base (a.add (i * Dat.size α)) (Dat.size α) = some cs ∧ Dat.rd w (OldS w) x cs) ∧ Blk.blk x ≤ Rows.uptoBulk (D i)) len (fun i hil => by
      obtain ⟨cs', hc, ht'⟩ := hi i (by omega)
      obtain ⟨x, h1, h2⟩ := he enc w base spare held n cs' _ ht'
      rw [hC] at hc
      exact ⟨x, ⟨cs', hc, h1⟩, h2⟩)
    refine ⟨xs, ⟨some a, cap, by rw [hxl], by omega, hm, els_of_cells hxl fun i x hi => (hx i x hi).1⟩, ?_⟩
    have hb := bulkAll_range D xs 0 (fun i x hi => by simpa using (hx i x hi).2)
    rw [hxl, ← List.range_eq_range'] at hb
    simp only [Rows.uptoBulk, Blk.blk]
    omega

/-- The fields of a struct, each of one cell. -/
theorem trod_fields {H : Type} {enc : TypeId × Value → H} {w : World} {base : Nat} {spare : Nat → Bool} {held : Bool} {t : TypeId} {fs : Array Field} {fuel : Nat} {cs : List Value} {y : DataW H × List MemPlace} (hs : P.underlying t = some (.struct fs)) (hone : oneCellFields P fs = true) (hC : P.cellsOf t = fs.size)
    (h : DataW.trod enc P w base spare held fuel t cs = some y) :
    ∃ (n : Nat) (ys : List (DataW H × List MemPlace)), fuel = n + 1 ∧ y.1 = .agg (ys.map (·.1)) ∧ cs.length = fs.size ∧ ys.length = fs.size ∧
      ∀ (j : Nat) (f : Field) (c : Value) (z : DataW H × List MemPlace), fs[j]? = some f → cs[j]? = some c → ys[j]? = some z → DataW.trod enc P w base spare held n f.type [c] = some z := by
  obtain ⟨ys, n, hn, hy, hlen, hyl, hf⟩ := DataW.trod_struct hs h
  refine ⟨n, ys, hn, by rw [hy], hlen.trans hC, hyl, fun j f c z hj hc hz => ?_⟩
  obtain ⟨ho, hk⟩ := hone_of hone j f hj
  have h1 := hf j f hj
  rw [ho, hk] at h1
  obtain ⟨hlt, rfl⟩ := List.getElem?_eq_some_iff.1 hc
  have hone' : (cs.drop j).take 1 = [cs[j]] := by
    rw [List.drop_eq_getElem_cons hlt]
    rfl
  rw [hone'] at h1
  exact h1.trans hz

theorem opens_sym {t : TypeId} {f0 f1 : Field} (hs : P.underlying t = some (.struct #[f0, f1])) (hone : oneCellFields P #[f0, f1] = true) (hC : P.cellsOf t = 2) (h0 : Opens P Bool f0.type) (h1 : Opens P Int f1.type) : Opens P Sym t := by
  intro H enc w base spare held fuel cs y h
  obtain ⟨n, ys, _, hy, hl, hyl, hf⟩ := trod_fields hs hone hC h
  match cs, hl, ys, hyl with
  | [c0, c1], _, [y0, y1], _ =>
    obtain ⟨b, hb, _⟩ := h0 enc w base spare held n [c0] y0 (hf 0 f0 c0 y0 rfl rfl rfl)
    obtain ⟨z, ⟨hz, hz'⟩, _⟩ := h1 enc w base spare held n [c1] y1 (hf 1 f1 c1 y1 rfl rfl rfl)
    have hb1 : [c0] = [Value.bool b] := hb
    obtain rfl : c0 = .bool b := by simpa using hb1
    obtain rfl : c1 = .int .i64 z := by simpa using hz
    refine ⟨⟨b, z⟩, ⟨rfl, hz'⟩, ?_⟩
    have b0 : ∀ d : DataW H, 1 ≤ Rows.uptoBulk d := fun d => by
      cases d with
      | lit l => cases l <;> simp [Rows.uptoBulk]
      | _ => simp [Rows.uptoBulk]
    have := b0 y0.1
    have := b0 y1.1
    rw [hy]
    simp only [List.map_cons, List.map_nil, Rows.uptoBulk, Rows.uptoBulkAll, Blk.blk]
    omega
theorem opens_rule {t : TypeId} {f0 f1 : Field} (hs : P.underlying t = some (.struct #[f0, f1])) (hone : oneCellFields P #[f0, f1] = true) (hC : P.cellsOf t = 2) (h0 : Opens P Int f0.type) (h1 : Opens P (List Sym) f1.type) : Opens P Rule t := by
  intro H enc w base spare held fuel cs y h
  obtain ⟨n, ys, _, hy, hl, hyl, hf⟩ := trod_fields hs hone hC h
  match cs, hl, ys, hyl with
  | [c0, c1], _, [y0, y1], _ =>
    obtain ⟨z, ⟨hz, hz'⟩, hbz⟩ := h0 enc w base spare held n [c0] y0 (hf 0 f0 c0 y0 rfl rfl rfl)
    obtain ⟨r, hr, hbr⟩ := h1 enc w base spare held n [c1] y1 (hf 1 f1 c1 y1 rfl rfl rfl)
    obtain rfl : c0 = .int .i64 z := by simpa using hz
    obtain ⟨v, hv, hvl⟩ := rd_slice hr
    obtain rfl : c1 = v := by simpa using hv
    refine ⟨⟨z, r⟩, ⟨c1, rfl, hz', hvl⟩, ?_⟩
    rw [hy]
    have e1 : Blk.blk z = 1 := rfl
    simp only [List.map_cons, List.map_nil, Rows.uptoBulk, Rows.uptoBulkAll]
    show 2 + Blk.blk r ≤ _
    omega
theorem opens_gram {t : TypeId} {f0 f1 f2 f3 : Field} (hs : P.underlying t = some (.struct #[f0, f1, f2, f3])) (hone : oneCellFields P #[f0, f1, f2, f3] = true) (hC : P.cellsOf t = 4) (h0 : Opens P Int f0.type) (h1 : Opens P Int f1.type) (h2 : Opens P Int f2.type) (h3 : Opens P (List Rule) f3.type) : Opens P Gram t := by
  intro H enc w base spare held fuel cs y h
  obtain ⟨n, ys, _, hy, hl, hyl, hf⟩ := trod_fields hs hone hC h
  match cs, hl, ys, hyl with
  | [c0, c1, c2, c3], _, [y0, y1, y2, y3], _ =>
    obtain ⟨z0, ⟨hz0, hz0'⟩, hb0⟩ := h0 enc w base spare held n [c0] y0 (hf 0 f0 c0 y0 rfl rfl rfl)
    obtain ⟨z1, ⟨hz1, hz1'⟩, hb1⟩ := h1 enc w base spare held n [c1] y1 (hf 1 f1 c1 y1 rfl rfl rfl)
    obtain ⟨z2, ⟨hz2, hz2'⟩, hb2⟩ := h2 enc w base spare held n [c2] y2 (hf 2 f2 c2 y2 rfl rfl rfl)
    obtain ⟨r, hr, hbr⟩ := h3 enc w base spare held n [c3] y3 (hf 3 f3 c3 y3 rfl rfl rfl)
    obtain rfl : c0 = .int .i64 z0 := by simpa using hz0
    obtain rfl : c1 = .int .i64 z1 := by simpa using hz1
    obtain rfl : c2 = .int .i64 z2 := by simpa using hz2
    obtain ⟨v, hv, hvl⟩ := rd_slice hr
    obtain rfl : c3 = v := by simpa using hv
    refine ⟨⟨z0, z1, z2, r⟩, ⟨c3, rfl, hz0', hz1', hz2', hvl⟩, ?_⟩
    rw [hy]
    have e0 : Blk.blk z0 = 1 := rfl
    have e1 : Blk.blk z1 = 1 := rfl
    have e2 : Blk.blk z2 = 1 := rfl
    simp only [List.map_cons, List.map_nil, Rows.uptoBulk, Rows.uptoBulkAll]
    show 4 + Blk.blk r ≤ _
    omega

/-- An argument, opened. -/
theorem open_arg_struct {H : Type} {enc : TypeId × Value → H} {w : World} {base b0 : Nat} {r : Reach} {spare : Nat → Bool} {held : Bool} {α : Type} [Dat α] [Blk α] {t : TypeId} {fs : Array Field} {v : Value} {d : DataW H} {p : List MemPlace} (hw : Dat.wraps α = true) (hs : P.underlying t = some (.struct fs)) (hO : Opens P α t)
    (hv : Value.okWide P w r b0 t v) (h : DataW.Trod enc P w base spare held t v d p) : ∃ x : α, Vl w (OldS w) x v ∧ Blk.blk x ≤ Rows.uptoBulk d := by
  obtain ⟨cs, rfl, _⟩ := okWide_struct hs hv
  obtain ⟨fuel, hf⟩ := h
  obtain ⟨x, h1, h2⟩ := hO enc w base spare held fuel _ _ hf
  exact ⟨x, ⟨_, h1, by rw [if_pos hw]; rfl⟩, h2⟩
theorem open_arg_slice {H : Type} {enc : TypeId × Value → H} {w : World} {base b0 : Nat} {r : Reach} {spare : Nat → Bool} {held : Bool} {α : Type} [Dat α] [Blk α] {t e : TypeId} {v : Value} {d : DataW H} {p : List MemPlace} (hs : P.underlying t = some (.slice e)) (hO : Opens P (List α) t)
    (hv : Value.okWide P w r b0 t v) (h : DataW.Trod enc P w base spare held t v d p) : ∃ x : List α, Vl w (OldS w) x v ∧ Blk.blk x ≤ Rows.uptoBulk d := by
  obtain ⟨a, len, cap, rfl⟩ := okWide_slice hs hv
  obtain ⟨fuel, hf⟩ := h
  obtain ⟨x, h1, h2⟩ := hO enc w base spare held fuel _ _ hf
  exact ⟨x, ⟨_, h1, rfl⟩, h2⟩
theorem open_arg_int {H : Type} {enc : TypeId × Value → H} {w : World} {base b0 : Nat} {r : Reach} {spare : Nat → Bool} {held : Bool} {t : TypeId} {v : Value} {d : DataW H} {p : List MemPlace} (hs : P.underlying t = some (.int .i64))
    (hv : Value.okWide P w r b0 t v) (h : DataW.Trod enc P w base spare held t v d p) : ∃ x : Int, Vl w (OldS w) x v ∧ Blk.blk x ≤ Rows.uptoBulk d := by
  obtain ⟨n, rfl⟩ := okWide_int hs hv
  obtain ⟨fuel, hf⟩ := h
  obtain ⟨x, h1, h2⟩ := opens_int hs enc w base spare held fuel _ _ hf
  exact ⟨x, ⟨_, h1, rfl⟩, h2⟩
end
theorem blk_len {α : Type} [Blk α] (hb : ∀ x : α, 1 ≤ Blk.blk x) : ∀ (xs : List α), xs.length ≤ blkAll xs
  | [] => by simp [blkAll]
  | x :: xs => by have := blk_len hb xs; have := hb x; simp only [List.length_cons, blkAll]; omega
theorem upto_bound {H : Type} {l : List (DataW H)} (hk : Rows.uptoSmall H l = true) : Rows.uptoBulkAll l ≤ 1048576 := by
  simpa [Rows.uptoSmall] using hk
end Go.Proofs.YtaidadjekfcacaaDoor

/- What the seat's own types read as. -/
namespace Go.Proofs.YtaidadjekfcacaaDoor
open Go.RowKit
theorem opensSym : Opens Tryd.prog Sym 64 := opens_sym Tryd.underlying64 (by kernel_rfl) (by kernel_rfl) (opens_bool Tryd.underlying4) (opens_int Tryd.underlying3)
theorem opensSyms : Opens Tryd.prog (List Sym) 59 := opens_slice Tryd.underlying59 (by kernel_rfl) opensSym
theorem opensRule : Opens Tryd.prog Rule 61 := opens_rule Tryd.underlying61 (by kernel_rfl) (by kernel_rfl) (opens_int Tryd.underlying3) opensSyms
theorem opensRules : Opens Tryd.prog (List Rule) 23 := opens_slice Tryd.underlying23 (by kernel_rfl) opensRule
theorem opensGram : Opens Tryd.prog Gram 25 := opens_gram Tryd.underlying25 (by kernel_rfl) (by kernel_rfl) (opens_int Tryd.underlying3) (opens_int Tryd.underlying3) (opens_int Tryd.underlying3) opensRules
theorem opensInts : Opens Tryd.prog (List Int) 22 := opens_slice Tryd.underlying22 (by kernel_rfl) (opens_int Tryd.underlying3)
end Go.Proofs.YtaidadjekfcacaaDoor

/- The element types of slices, off the program's tables. -/
namespace Go.Proofs.YtaidadjekfcacaaDoor
open Go.RowKit
theorem infoInt : (Tryd.prog.info? 3).map (fun i => (i.zero, i.size, i.bytes)) = some (some (.int .i64 0), 1, 8) := by kernel_rfl
theorem elemInt : ElemT Tryd.prog Int 22 3 8 := by obtain ⟨i, h1, h2, h3, h4⟩ := info_parts infoInt; exact ⟨i, _, Tryd.underlying22, h1, h2, h3, h4, rfl⟩
theorem infoBool : (Tryd.prog.info? 4).map (fun i => (i.zero, i.size, i.bytes)) = some (some (.bool false), 1, 1) := by kernel_rfl
theorem elemBool : ElemT Tryd.prog Bool 96 4 1 := by obtain ⟨i, h1, h2, h3, h4⟩ := info_parts infoBool; exact ⟨i, _, Tryd.underlying96, h1, h2, h3, h4, rfl⟩
theorem infoSym : (Tryd.prog.info? 64).map (fun i => (i.zero, i.size, i.bytes)) = some (some (.agg #[.bool false, .int .i64 0]), 2, 16) := by kernel_rfl
theorem elemSym : ElemT Tryd.prog Sym 59 64 16 := by obtain ⟨i, h1, h2, h3, h4⟩ := info_parts infoSym; exact ⟨i, _, Tryd.underlying59, h1, h2, h3, h4, rfl⟩
theorem infoRule : (Tryd.prog.info? 61).map (fun i => (i.zero, i.size, i.bytes)) = some (some (.agg #[.int .i64 0, .slice none 0 0]), 2, 32) := by kernel_rfl
theorem elemRule : ElemT Tryd.prog Rule 23 61 32 := by obtain ⟨i, h1, h2, h3, h4⟩ := info_parts infoRule; exact ⟨i, _, Tryd.underlying23, h1, h2, h3, h4, rfl⟩
theorem infoTree : (Tryd.prog.info? 50).map (fun i => (i.zero, i.size, i.bytes)) = some (some (.agg #[.int .i64 0, .int .i64 0, .slice none 0 0]), 3, 40) := by kernel_rfl
theorem elemTree : ElemT Tryd.prog Tree 48 50 40 := by obtain ⟨i, h1, h2, h3, h4⟩ := info_parts infoTree; exact ⟨i, _, Tryd.underlying48, h1, h2, h3, h4, rfl⟩
theorem infoInts : (Tryd.prog.info? 22).map (fun i => (i.zero, i.size, i.bytes)) = some (some (.slice none 0 0), 1, 24) := by kernel_rfl
theorem elemInts : ElemT Tryd.prog (List Int) 118 22 24 := by obtain ⟨i, h1, h2, h3, h4⟩ := info_parts infoInts; exact ⟨i, _, Tryd.underlying118, h1, h2, h3, h4, rfl⟩
theorem infoBools : (Tryd.prog.info? 96).map (fun i => (i.zero, i.size, i.bytes)) = some (some (.slice none 0 0), 1, 24) := by kernel_rfl
theorem elemBools : ElemT Tryd.prog (List Bool) 120 96 24 := by obtain ⟨i, h1, h2, h3, h4⟩ := info_parts infoBools; exact ⟨i, _, Tryd.underlying120, h1, h2, h3, h4, rfl⟩
end Go.Proofs.YtaidadjekfcacaaDoor

/- Appending a whole slice onto a row of the call's own; a row made with room by append-of-make. -/
namespace Go.Proofs.YtaidadjekfcacaaDoor
open Go.RowKit

theorem Els.lists {α : Type} [Dat α] {w : World} {S : Nat → Prop} {b o : Nat} : ∀ (xs : List α) (s : Nat),
    (∀ i x, xs[i]? = some x → ∃ cs, Dat.rd w S x cs ∧ At w b (o + (s + i) * Dat.size α) cs) →
    ∃ css : List (List Value), css.length = xs.length ∧ (∀ (i : Nat) (x : α) (cs : List Value), xs[i]? = some x → css[i]? = some cs → Dat.rd w S x cs) ∧ At w b (o + s * Dat.size α) css.flatten
  | [], s, _ => ⟨[], rfl, by simp, by intro j u hu; simp at hu⟩
  | x :: xs, s, h => by
    obtain ⟨cs, h1, h2⟩ := h 0 x rfl
    obtain ⟨css, h3, h4, h5⟩ := Els.lists xs (s + 1) (fun i y hi => by
      obtain ⟨ds, h6, h7⟩ := h (i + 1) y (by simpa using hi)
      exact ⟨ds, h6, by rw [show s + 1 + i = s + (i + 1) from by omega]; exact h7⟩)
    refine ⟨cs :: css, by simp [h3], fun i y ds hi hd => ?_, ?_⟩
    · match i with
      | 0 => simp at hi hd; subst hi; subst hd; exact h1
      | i + 1 => exact h4 i y ds (by simpa using hi) (by simpa using hd)
    · intro j u hu
      rw [List.flatten_cons] at hu
      have hl := Dat.len h1
      rcases Nat.lt_or_ge j cs.length with hj | hj
      · rw [List.getElem?_append_left hj] at hu
        have := h2 j u hu
        simpa using this
      · rw [List.getElem?_append_right hj] at hu
        have := h5 _ u hu
        rw [hl] at this hj
        rw [show o + s * Dat.size α + j = o + (s + 1) * Dat.size α + (j - Dat.size α) from by rw [Nat.add_mul]; omega]
        exact this

theorem flat_len {size : Nat} : ∀ (css : List (List Value)) (_ : ∀ cs ∈ css, cs.length = size), css.flatten.length = css.length * size
  | [], _ => by simp
  | c :: css, h => by
    rw [List.flatten_cons, List.length_append, flat_len css (fun cs hcs => h cs (by simp [hcs])), h c (by simp), List.length_cons, Nat.add_mul]; omega

section
variable {P : Program} {w : World} {S : Nat → Prop} {base : Nat} {α : Type} [Dat α]

theorem own_many {e : TypeId} {v v' : Value} {w' : World} {xs ys : List α} {css dss : List (List Value)}
    (h2 : css.length = xs.length) (h3 : ∀ (i : Nat) (x : α) (cs : List Value), xs[i]? = some x → css[i]? = some cs → Dat.rd w (OwnT S base v w) x cs)
    (h2' : dss.length = ys.length) (h3' : ∀ (i : Nat) (x : α) (cs : List Value), ys[i]? = some x → dss[i]? = some cs → Dat.rd w (OwnT S base v w) x cs)
    (hown : w'.ownsRow base e (Dat.size α) v' (xs.length + ys.length) (css.flatten ++ dss.flatten))
    (hg : w.grownBy w' v.ownBlock) (hat : v'.ownBlock = v.ownBlock ∨ v'.ownBlock = some w.heap.size) : Own w' S base e v' (xs ++ ys) := by
  have hkeep : ∀ {y : α} {ds : List Value}, Dat.rd w (OwnT S base v w) y ds → Dat.rd w' (OwnT S base v' w') y ds := fun hy =>
    Dat.keep (fun p hp hlt => World.cell?_of_block (hg.block p.block hlt (fun e => hp.2.1 e.symm))) (fun b hb => ⟨hb.1, by
      rcases hat with e | e
      · rw [e]; exact hb.2.1
      · rw [e]; intro h; injection h with h; have := hb.2.2; omega, Nat.lt_of_lt_of_le hb.2.2 hg.size⟩) hy
  refine ⟨css ++ dss, by simpa using hown, by simp [h2, h2'], fun i y ds hi hd => ?_⟩
  rcases Nat.lt_or_ge i xs.length with hlt | hge
  · rw [List.getElem?_append_left hlt] at hi
    rw [List.getElem?_append_left (by omega)] at hd
    exact hkeep (h3 i y ds hi hd)
  · rw [List.getElem?_append_right hge] at hi
    rw [List.getElem?_append_right (by omega), h2] at hd
    exact hkeep (h3' _ y ds hi hd)

theorem run_append_nil_src {t ty e : TypeId} {i : TypeInfo} {size : Nat} (ht : P.underlying t = some (.slice e)) (hi : P.info? e = some i)
    {v : Value} {n : Nat} {xs : List Value} (hown : w.ownsRow base e size v n xs) (c : Nat) : (Builtin.append_ #[t, t] ty #[v, .slice none 0 c]).run P w = .ok v w := by
  rcases hown.2 with ⟨rfl, rfl⟩ | ⟨g, cap, cur, rfl, _, _, hnc, _⟩
  · simp [Builtin.append_, run_underlying ht, sizeOf, typeInfo, hi, Builtin.lenOf, Builtin.firstCells]
  · simp [Builtin.append_, run_underlying ht, sizeOf, typeInfo, hi, Builtin.lenOf, Builtin.firstCells, hnc, storeCells]
theorem run_append_none_src {t ty e : TypeId} {i : TypeInfo} {size : Nat} (ht : P.underlying t = some (.slice e)) (hi : P.info? e = some i)
    {v : Value} {n : Nat} {xs : List Value} (hown : w.ownsRow base e size v n xs) (ad : Addr) (c : Nat) : (Builtin.append_ #[t, t] ty #[v, .slice (some ad) 0 c]).run P w = .ok v w := by
  rcases hown.2 with ⟨rfl, rfl⟩ | ⟨g, cap, cur, rfl, _, _, hnc, _⟩
  · simp [Builtin.append_, run_underlying ht, sizeOf, typeInfo, hi, Builtin.lenOf, Builtin.firstCells, loadCells, loadCellsFrom]
  · simp [Builtin.append_, run_underlying ht, sizeOf, typeInfo, hi, Builtin.lenOf, Builtin.firstCells, hnc, storeCells, loadCells, loadCellsFrom]

/-- append of a whole slice that reads as ys. -/
theorem run_ownMany {t ty e : TypeId} {bytes : Nat} (hT : ElemT P α t e bytes) {v : Value} {xs ys : List α} {A : Option Addr} {c : Nat} (hown : Own w S base e v xs)
    (hys : Els w (OwnT S base v w) ys A) (hlen : (xs.length + ys.length) * bytes ≤ 140737488355328) (hmax : xs.length + ys.length ≤ 9223372036854775807) (hbase : base ≤ w.heap.size) :
    ∃ v' w', (Builtin.append_ #[t, t] ty #[v, .slice A ys.length c]).run P w = .ok v' w' ∧ Own w' S base e v' (xs ++ ys) ∧ w.grownBy w' v.ownBlock ∧ (v'.ownBlock = v.ownBlock ∨ v'.ownBlock = some w.heap.size) := by
  obtain ⟨i, z, ht, hi, hz, hsize, hby, hzs⟩ := hT
  by_cases hne : ys = []
  · subst hne
    refine ⟨v, w, ?_, by simpa using hown, ⟨rfl, rfl, rfl, Nat.le_refl _, fun _ _ _ => rfl⟩, .inl rfl⟩
    obtain ⟨css, h1, _⟩ := hown
    cases A with
    | none => exact run_append_nil_src ht hi h1 c
    | some ad => exact run_append_none_src ht hi h1 ad c
  · obtain ⟨b, o, rfl, hb, hx⟩ := hys hne
    obtain ⟨dss, h2', h3', h4'⟩ := Els.lists (o := o) ys 0 (fun i x hi => by simpa using hx i x hi)
    simp only [Nat.zero_mul, Nat.add_zero] at h4'
    obtain ⟨css, h1, h2, h3⟩ := hown
    have hdl : ∀ ds ∈ dss, ds.length = Dat.size α := by
      intro ds hds
      obtain ⟨i, hi, rfl⟩ := List.getElem_of_mem hds
      exact Dat.len (h3' i _ _ (List.getElem?_eq_getElem (by omega : i < ys.length)) (List.getElem?_eq_getElem hi))
    have hfl := flat_len dss hdl
    have hone : ∀ u ∈ dss.flatten, u.oneCell' = true := by
      intro u hu
      obtain ⟨ds, hds, hu⟩ := List.mem_flatten.1 hu
      obtain ⟨i, hi, rfl⟩ := List.getElem_of_mem hds
      exact Dat.one (h3' i _ _ (List.getElem?_eq_getElem (by omega : i < ys.length)) (List.getElem?_eq_getElem hi)) u hu
    obtain ⟨v', w', hr, ho, hg, _, h5⟩ := run_append_own_at (P := P) w base t ty e i z (Dat.size α) bytes ht hi hz hsize hby hzs Dat.pos v xs.length css.flatten h1 ⟨b, o, none⟩ ys.length c dss.flatten (by rw [hfl, h2'])
      (by
        intro j u hu
        have h := h4' j u hu
        have hadd : (⟨b, o, none⟩ : Addr).add j = ⟨b, o + j, none⟩ := by unfold Addr.add; split <;> simp_all
        rw [hadd]; exact h) hone (by simpa [maxLen] using hmax) hlen hbase
    exact ⟨v', w', hr, own_many h2 h3 h2' h3' ho hg h5, hg, h5⟩
end

section
variable {P : Program} (w : World) {S : Nat → Prop} {base : Nat} {α : Type} [Dat α]
theorem wp_ownMany {o : Oper} {a : Act} {K : Act → World → Prop} {Q : Exit → Act → World → Prop} (s xo : Operand) {t e : TypeId} {bytes : Nat} (hT : ElemT P α t e bytes)
    (ho : o.op = .call { callee := .builtin .append, args := #[s, xo], argTypes := #[t, t] })
    {v : Value} {xs : List α} (hs : a.eval s = v) (hown : Own w S base e v xs) (ys : List α) {A : Option Addr} {n c : Nat} (hx : a.eval xo = .slice A n c) (hn : n = ys.length)
    (hys : Els w (OwnT S base v w) ys A) (hlen : (xs.length + ys.length) * bytes ≤ 140737488355328) (hmax : xs.length + ys.length ≤ 9223372036854775807) (hbase : base ≤ w.heap.size)
    (h : ∀ v' w', Own w' S base e v' (xs ++ ys) → w.grownBy w' v.ownBlock → (v'.ownBlock = v.ownBlock ∨ v'.ownBlock = some w.heap.size) → K (a.put o.dst v') w') : o.wp P a w K Q := by
  subst hn
  obtain ⟨v', w', hrun, h2, h3, h4⟩ := run_ownMany (ty := o.type) (c := c) hT hown hys hlen hmax hbase
  unfold Oper.wp execOp
  simp only [ho, resolve, invoke, builtin, Sem.run_bind, Sem.run_pure, Result.andThen_ok, List.map_toArray, List.map_cons, List.map_nil, hs, hx, hrun]
  exact h v' w' h2 h3 h4
theorem wpList_ownMany {ops : Array Oper} {rest : List Oper} {o : Oper} {a : Act} {Q : Exit → Act → World → Prop} (hgd : o.guard = none) (s xo : Operand) {t e : TypeId} {bytes : Nat} (hT : ElemT P α t e bytes)
    (ho : o.op = .call { callee := .builtin .append, args := #[s, xo], argTypes := #[t, t] })
    {v : Value} {xs : List α} (hs : a.eval s = v) (hown : Own w S base e v xs) (ys : List α) {A : Option Addr} {n c : Nat} (hx : a.eval xo = .slice A n c) (hn : n = ys.length)
    (hys : Els w (OwnT S base v w) ys A) (hlen : (xs.length + ys.length) * bytes ≤ 140737488355328) (hmax : xs.length + ys.length ≤ 9223372036854775807) (hbase : base ≤ w.heap.size)
    (h : ∀ v' w', Own w' S base e v' (xs ++ ys) → w.grownBy w' v.ownBlock → (v'.ownBlock = v.ownBlock ∨ v'.ownBlock = some w.heap.size) → wpList P ops Q rest (a.put o.dst v') w') : wpList P ops Q (o :: rest) a w :=
  wpList_plain hgd fun _ hK => wp_ownMany w s xo hT ho hs hown ys hx hn hys hlen hmax hbase fun v' w' h2 h3 h4 => hK _ _ (h v' w' h2 h3 h4)
end

/-- A row of no element, with room. -/
theorem Own.made {α : Type} [Dat α] {w : World} (S : Nat → Prop) {base : Nat} {e : TypeId} {cur : Array Value} {cap : Nat} (hb : base ≤ w.heap.size) (hm : cap ≤ 9223372036854775807) (hs : cur.size = cap * Dat.size α) :
    Own (w.alloc (.cells cur e)) S base e (.slice (some ⟨w.heap.size, 0, none⟩) 0 cap) ([] : List α) :=
  ⟨[], World.ownsRow_made w cur cap hb (by simpa [maxLen] using hm) hs, rfl, fun i x cs h => by simp at h⟩

/-- append(nil, make([]T, n)...) : the run, as an equation, and what the row is when cut to no element. -/
theorem run_room {P : Program} {w : World} {α : Type} [Dat α] {t tn ty e : TypeId} {bytes : Nat} {kn k : IntKind} (hT : ElemT P α t e bytes) (htn : P.underlying tn = some (.int kn)) (n : Nat) (h0 : 0 < n) (h48 : n * bytes ≤ 281474976710656) (h63 : n ≤ 9223372036854775807) :
    ∃ w' g cap, (Builtin.append_ #[t, tn] ty #[.slice none 0 0, .int k n]).run P w = .ok (.slice (some ⟨g, 0, none⟩) n cap) w' ∧ g = w.heap.size ∧ n ≤ cap ∧ cap ≤ 9223372036854775807 ∧ (∀ S, Own w' S w.heap.size e (.slice (some ⟨g, 0, none⟩) 0 cap) ([] : List α)) ∧ Below w.heap.size w w' ∧ w'.heap.size = w.heap.size + 1 := by
  obtain ⟨i, z, ht, hi, hz, hsize, hby, hzs⟩ := hT
  have hr := Lib.run_append_nil_zeros (P := P) w t tn ty e i z k kn ht htn hi hz n h0 (by rw [hsize]; exact Dat.pos) (by omega) (by rw [hby]; exact h48)
  have hge := grownCap_ge w n 0 e
  have hcm := grownCap_le_maxLen w n 0 e (by simpa [maxLen] using h63)
  refine ⟨_, _, _, hr, rfl, hge, by simpa [maxLen] using hcm, fun S => ?_, ((Below.refl _ _).drew).alloc (Nat.le_refl _) _, by simp⟩
  exact Own.made (w := w.drew) S (Nat.le_refl _) (by simpa [maxLen] using hcm) (by simp only [Array.size_append, size_zeroCells, hzs, ← Nat.add_mul]; congr 1; omega)

/-- What append leaves of a literal row on nil: a row of the call's own. -/
theorem Own.litGrown {α : Type} [Dat α] {w : World} (S : Nat → Prop) {base : Nat} {e : TypeId} (xs : List α) (css : List (List Value)) (z : Array Value) (n : Nat) (hn : n = xs.length) (hz : z.size = Dat.size α) (hb : base ≤ w.heap.size) (hm : xs.length ≤ 9223372036854775807) (hl : css.length = xs.length)
    (hr : ∀ (i : Nat) (x : α) (cs : List Value), xs[i]? = some x → css[i]? = some cs → Dat.rd w (fun b => (S b ∨ base ≤ b) ∧ b < w.heap.size) x cs) (w0 : World) :
    Own (w.alloc (.cells (css.flatten.toArray ++ Builtin.zeroCells z ((Question.appendCap n 0 e).cut (w0.tape w0.drawn (Question.appendCap n 0 e)) - n)) e)).drew S base e (.slice (some ⟨w.heap.size, 0, none⟩) n ((Question.appendCap n 0 e).cut (w0.tape w0.drawn (Question.appendCap n 0 e)))) xs := by
  subst hn
  have hge := grownCap_ge w0 xs.length 0 e
  have hcm := grownCap_le_maxLen w0 xs.length 0 e (by simpa [maxLen] using hm)
  unfold grownCap at hge hcm
  generalize (Question.appendCap xs.length 0 e).cut (w0.tape w0.drawn (Question.appendCap xs.length 0 e)) = cap at *
  have hdl : ∀ ds ∈ css, ds.length = Dat.size α := by
    intro ds hds
    obtain ⟨i, hi, rfl⟩ := List.getElem_of_mem hds
    exact Dat.len (hr i _ _ (List.getElem?_eq_getElem (by omega : i < xs.length)) (List.getElem?_eq_getElem hi))
  have hfl := flat_len css hdl
  rw [hl] at hfl
  refine ⟨css, ⟨hfl, .inr ⟨w.heap.size, cap, _, rfl, hb, heap_alloc_new w _, hge, hcm, ?_, ?_⟩⟩, hl, fun i x cs hi hc => Dat.keep (fun p hp hlt => ?_) (fun b hb' => ⟨hb'.1, ?_, ?_⟩) (hr i x cs hi hc)⟩
  · simp only [Array.size_append, size_zeroCells, hz, List.size_toArray, hfl, ← Nat.add_mul]; congr 1; omega
  · rw [Array.toList_append, List.take_append_of_le_length (by simp [hfl])]
    exact List.take_of_length_le (by simp [hfl])
  · exact ((Below.refl _ _).alloc (Nat.le_refl _) _ : Below w.heap.size w _).cell hp.2
  · simp [Value.ownBlock]; have := hb'.2; omega
  · have := hb'.2; simp; omega

/-- A call that returns a row of its own. -/
def RetOwn {α : Type} [Dat α] (w0 : World) (S : Nat → Prop) (et : TypeId) (xs : List α) (e : Ending) (w' : World) : Prop :=
  ∃ v, e = .returned v ∧ Own w' S w0.heap.size et v xs ∧ Below w0.heap.size w0 w'
theorem flat_take_le {α : Type} (xss : List (List α)) (k : Nat) : (xss.take k).flatten.length ≤ xss.flatten.length := by
  conv => rhs; rw [← List.take_append_drop k xss]
  rw [List.flatten_append, List.length_append]; omega
theorem flat_take_snoc {α : Type} {xss : List (List α)} {k : Nat} {xs : List α} (h : xss[k]? = some xs) : (xss.take (k + 1)).flatten = (xss.take k).flatten ++ xs := by
  rw [take_snoc h, List.flatten_append]; simp
theorem Els.own {α : Type} [Dat α] {w : World} {S : Nat → Prop} {base : Nat} {e : TypeId} {β : Type} [Dat β] {v : Value} {ys : List β} {xs : List α} {A : Option Addr} (h : Els w S xs A) (hown : Own w S base e v ys) (hS : ∀ b, S b → b < base) (hb : base ≤ w.heap.size) : Els w (OwnT S base v w) xs A :=
  h.keep (fun _ _ _ => rfl) (fun b hb' => ⟨.inl hb', fun e => by have := (hown.block b e).1; have := hS b hb'; omega, by have := hS b hb'; omega⟩)
theorem own_ne {α : Type} [Dat α] {w : World} {S : Nat → Prop} {B : Nat} {e : TypeId} {v : Value} {xs : List α} (h : Own w S (B + 1) e v xs) : some B ≠ v.ownBlock := fun e => by have := (h.block B e.symm).1; omega
theorem At.new (w : World) (cs : List Value) (t : TypeId) : At (w.alloc (.cells cs.toArray t)) w.heap.size 0 cs := fun j u hu => by
  rw [Nat.zero_add, World.cell?_alloc_new]; simpa using hu
theorem snoc_len {α : Type} (l : List α) (x : α) : (l ++ [x]).length = l.length + 1 := by simp
theorem Own.base {α : Type} [Dat α] {w : World} {S : Nat → Prop} {base base' : Nat} {e : TypeId} {v : Value} {xs : List α} (h : Own w S base e v xs) (hb : base' ≤ base) : Own w S base' e v xs := by
  obtain ⟨css, h1, h2, h3⟩ := h
  refine ⟨css, ⟨h1.1, ?_⟩, h2, fun i x cs hi hc => Dat.keep (fun _ _ _ => rfl) (fun b hb' => ⟨hb'.1.imp id (fun h => Nat.le_trans hb h), hb'.2⟩) (h3 i x cs hi hc)⟩
  rcases h1.2 with h | ⟨g, cap, cur, q1, q2, q3⟩
  · exact .inl h
  · exact .inr ⟨g, cap, cur, q1, Nat.le_trans hb q2, q3⟩

/-- A block that is known whole holds a row of elements. -/
theorem els_of_blk {α : Type} [Dat α] {w : World} {S : Nat → Prop} {g : Nat} {t : TypeId} {xs : List α} {cells : Array Value} (css : List (List Value)) (hb : Blk' w g t cells) (hc : cells = css.flatten.toArray) (hl : css.length = xs.length)
    (hr : ∀ (i : Nat) (x : α) (cs : List Value), xs[i]? = some x → css[i]? = some cs → Dat.rd w S x cs) (hS : S g) : Els w S xs (some ⟨g, 0, none⟩) := by
  subst hc
  intro _
  refine ⟨g, 0, rfl, hS, fun i x hi => ?_⟩
  have hil : i < css.length := by have := (List.getElem?_eq_some_iff.1 hi).1; omega
  have hci : css[i]? = some css[i] := List.getElem?_eq_getElem hil
  refine ⟨css[i], hr i x _ hi hci, fun j u hu => ?_⟩
  have hcl : ∀ cs ∈ css, cs.length = Dat.size α := by
    intro cs hcs
    obtain ⟨k, hk, rfl⟩ := List.getElem_of_mem hcs
    exact Dat.len (hr k _ _ (List.getElem?_eq_getElem (by omega : k < xs.length)) (List.getElem?_eq_getElem hk))
  have hf := flat_get css hcl i j _ u hci hu
  rw [hb.cell]
  simpa [Nat.zero_add] using hf
theorem rd_two {α : Type} [Dat α] {w : World} {S : Nat → Prop} {x y : α} {cs ds : List Value} (h1 : Dat.rd w S x cs) (h2 : Dat.rd w S y ds) : ∀ (i : Nat) (z : α) (es : List Value), [x, y][i]? = some z → [cs, ds][i]? = some es → Dat.rd w S z es
  | 0, z, es, hi, hd => by simp at hi hd; subst hi; subst hd; exact h1
  | 1, z, es, hi, hd => by simp at hi hd; subst hi; subst hd; exact h2
  | _ + 2, z, es, hi, _ => by simp at hi
theorem rd_one {α : Type} [Dat α] {w : World} {S : Nat → Prop} {x : α} {cs : List Value} (h1 : Dat.rd w S x cs) : ∀ (i : Nat) (z : α) (es : List Value), [x][i]? = some z → [cs][i]? = some es → Dat.rd w S z es
  | 0, z, es, hi, hd => by simp at hi hd; subst hi; subst hd; exact h1
  | _ + 1, z, es, hi, _ => by simp at hi
end Go.Proofs.YtaidadjekfcacaaDoor

/- The plain law of FirstWords: in sets that are closed under the rules, the word of a tree begins with a terminal of First of its root, and an empty word's root is in Null. No program is named here. -/
namespace Go.Proofs.YtaidadjekfcacaaDoor
open Go.RowKit
set_option linter.unusedVariables false

/-- A row or another one. -/
def orRow : List Bool → List Bool → List Bool
  | [], _ => []
  | t :: ts, [] => t :: ts
  | t :: ts, f :: fs => (t || f) :: orRow ts fs
theorem orRow_len : ∀ (a b : List Bool), (orRow a b).length = a.length
  | [], _ => rfl
  | _ :: _, [] => rfl
  | _ :: ts, _ :: fs => by simp [orRow, orRow_len ts fs]
theorem orRow_left : ∀ (a b : List Bool) (j : Nat), a[j]? = some true → (orRow a b)[j]? = some true
  | [], _, _, h => by simp at h
  | t :: ts, [], j, h => by simpa [orRow] using h
  | t :: ts, f :: fs, 0, h => by simp at h; simp [orRow, h]
  | t :: ts, f :: fs, j + 1, h => by
    simp only [orRow, List.getElem?_cons_succ]
    exact orRow_left ts fs j (by simpa using h)
theorem orRow_right : ∀ (a b : List Bool) (j : Nat), a.length = b.length → b[j]? = some true → (orRow a b)[j]? = some true
  | [], [], _, _, h => by simp at h
  | [], _ :: _, _, hl, h => by simp at hl
  | t :: ts, [], j, hl, h => by simp at hl
  | t :: ts, f :: fs, 0, hl, h => by simp at h; simp [orRow, h]
  | t :: ts, f :: fs, j + 1, hl, h => by
    simp only [orRow, List.getElem?_cons_succ]
    exact orRow_right ts fs j (by simpa using hl) (by simpa using h)

/-- What first.Sets.Of computes, from a row on. -/
def ofFrom (e : List Bool) (f : List (List Bool)) : List Bool → List Sym → List Bool × Bool
  | out, [] => (out, true)
  | out, x :: xs => if x.term then (out.set x.n.toNat true, false) else if e.getD x.n.toNat false then ofFrom e f (orRow out (f.getD x.n.toNat [])) xs else (orRow out (f.getD x.n.toNat []), false)
theorem ofFrom_len (e : List Bool) (f : List (List Bool)) : ∀ (l : List Sym) (out : List Bool), (ofFrom e f out l).1.length = out.length
  | [], out => rfl
  | x :: xs, out => by
    unfold ofFrom
    split
    · simp
    · split
      · rw [ofFrom_len e f xs, orRow_len]
      · rw [orRow_len]
theorem ofFrom_mono (e : List Bool) (f : List (List Bool)) : ∀ (l : List Sym) (out : List Bool) (j : Nat), out[j]? = some true → (ofFrom e f out l).1[j]? = some true
  | [], out, j, h => h
  | x :: xs, out, j, h => by
    unfold ofFrom
    split
    · have hj := (List.getElem?_eq_some_iff.1 h).1
      simp only [List.getElem?_set]
      split
      · simp [hj]; omega
      · exact h
    · split
      · exact ofFrom_mono e f xs _ j (orRow_left _ _ _ h)
      · exact orRow_left _ _ _ h

mutual
/-- A tree of the grammar with a symbol at its root. -/
def vt (g : Gram) : Tree → Sym → Prop
  | ⟨r, t, ks⟩, s => if s.term then r = -1 ∧ t = s.n ∧ ks = [] else t = 0 ∧ 0 ≤ r ∧ ∃ q : Rule, g.rules[r.toNat]? = some q ∧ q.left = s.n ∧ vts g ks q.right
def vts (g : Gram) : List Tree → List Sym → Prop
  | [], [] => True
  | k :: ks, s :: ss => vt g k s ∧ vts g ks ss
  | [], _ :: _ => False
  | _ :: _, [] => False
end
mutual
/-- The word of a tree. -/
def yieldT : Tree → List Int
  | ⟨r, t, ks⟩ => if r < 0 then [t] else yields ks
def yields : List Tree → List Int
  | [] => []
  | k :: ks => yieldT k ++ yields ks
end

def InF (m : Nat) (f : List (List Bool)) (n : Nat) (c : Int) : Prop := 0 ≤ c ∧ c < (m : Int) ∧ (f.getD n [])[c.toNat]? = some true
/-- The sets are closed under the rules. -/
structure ClosedS (g : Gram) (m : Nat) (e : List Bool) (f : List (List Bool)) : Prop where
  rows : ∀ n : Nat, n < g.nons.toNat → (f.getD n []).length = m
  first : ∀ q ∈ g.rules, ∀ j : Nat, (ofFrom e f (List.replicate m false) q.right).1[j]? = some true → (f.getD q.left.toNat [])[j]? = some true
  null : ∀ q ∈ g.rules, (ofFrom e f (List.replicate m false) q.right).2 = true → e.getD q.left.toNat false = true
def SymIn (m : Nat) (g : Gram) (s : Sym) : Prop := 0 ≤ s.n ∧ if s.term then s.n < (m : Int) else s.n < g.nons

mutual
theorem first_tree {g : Gram} {m : Nat} {e : List Bool} {f : List (List Bool)} (hc : ClosedS g m e f) (hok : ∀ q ∈ g.rules, ∀ s ∈ q.right, SymIn m g s) :
    ∀ (t : Tree) (s : Sym), vt g t s → s.term = false → (yieldT t = [] → e.getD s.n.toNat false = true) ∧ ∀ c w, yieldT t = c :: w → InF m f s.n.toNat c
  | ⟨r, t, ks⟩, s, h, hs => by
    unfold vt at h
    rw [if_neg (by simp [hs])] at h
    obtain ⟨_, hr, q, hq, hql, hks⟩ := h
    have hm := List.mem_of_getElem? hq
    have hy : yieldT ⟨r, t, ks⟩ = yields ks := by unfold yieldT; rw [if_neg (by omega)]
    have ih := first_kids hc hok ks q.right (List.replicate m false) (by simp) (hok q hm) hks
    rw [hy, ← hql]
    exact ⟨fun h0 => hc.null q hm (ih.1 h0), fun c w hw => by
      obtain ⟨h1, h2, h3⟩ := ih.2 c w hw
      exact ⟨h1, h2, hc.first q hm _ h3⟩⟩
theorem first_kids {g : Gram} {m : Nat} {e : List Bool} {f : List (List Bool)} (hc : ClosedS g m e f) (hok : ∀ q ∈ g.rules, ∀ s ∈ q.right, SymIn m g s) :
    ∀ (ks : List Tree) (ss : List Sym) (out : List Bool), out.length = m → (∀ s ∈ ss, SymIn m g s) → vts g ks ss → (yields ks = [] → (ofFrom e f out ss).2 = true) ∧ ∀ c w, yields ks = c :: w → 0 ≤ c ∧ c < (m : Int) ∧ (ofFrom e f out ss).1[c.toNat]? = some true
  | [], [], out, _, _, _ => ⟨fun _ => rfl, fun c w h => by simp [yields] at h⟩
  | [], _ :: _, out, _, _, h => by unfold vts at h; exact h.elim
  | _ :: _, [], out, _, _, h => by unfold vts at h; exact h.elim
  | k :: ks, s :: ss, out, hl, hin, h => by
    unfold vts at h
    have hs := hin s (by simp)
    obtain ⟨hs0, hs1⟩ := hs
    cases hterm : s.term
    · rw [hterm] at hs1
      simp at hs1
      have hrow := hc.rows s.n.toNat (by omega)
      have iht := first_tree hc hok k s h.1 hterm
      have ihk := first_kids hc hok ks ss (orRow out (f.getD s.n.toNat [])) (by rw [orRow_len]; exact hl) (fun x hx => hin x (by simp [hx])) h.2
      have hof : ofFrom e f out (s :: ss) = if e.getD s.n.toNat false then ofFrom e f (orRow out (f.getD s.n.toNat [])) ss else (orRow out (f.getD s.n.toNat []), false) := by
        rw [ofFrom, hterm]; simp
      rw [hof]
      show (yieldT k ++ yields ks = [] → _) ∧ ∀ c w, yieldT k ++ yields ks = c :: w → _
      refine ⟨fun h0 => ?_, fun c w hw => ?_⟩
      · obtain ⟨h1, h2⟩ := List.append_eq_nil_iff.1 h0
        rw [if_pos (iht.1 h1)]
        exact ihk.1 h2
      · cases hyk : yieldT k with
        | nil =>
          rw [hyk] at hw
          rw [if_pos (iht.1 hyk)]
          exact ihk.2 c w hw
        | cons c' w' =>
          rw [hyk] at hw
          simp at hw
          obtain ⟨rfl, _⟩ := hw
          obtain ⟨h1, h2, h3⟩ := iht.2 _ _ hyk
          have h4 := orRow_right out (f.getD s.n.toNat []) c'.toNat (by rw [hl, hrow]) h3
          refine ⟨h1, h2, ?_⟩
          split
          · exact ofFrom_mono e f ss _ _ h4
          · exact h4
    · rw [hterm] at hs1
      simp at hs1
      have hk := h.1
      cases k with
      | mk r t kk =>
        unfold vt at hk
        rw [if_pos hterm] at hk
        obtain ⟨rfl, rfl, rfl⟩ := hk
        have hy : yields (⟨-1, s.n, []⟩ :: ks) = s.n :: yields ks := by simp [yields, yieldT]
        rw [hy]
        refine ⟨fun h0 => by simp at h0, fun c w hw => ?_⟩
        simp at hw
        obtain ⟨rfl, _⟩ := hw
        refine ⟨hs0, hs1, ?_⟩
        rw [ofFrom, if_pos hterm]
        simp only [List.getElem?_set]
        rw [if_pos trivial, if_pos (by omega)]
end
end Go.Proofs.YtaidadjekfcacaaDoor

/- The plain law of core.Ends and core.Reach: tables of masks that are sound and closed under the rules tell which parts of a word the symbols derive. No program is named here. -/
namespace Go.Proofs.YtaidadjekfcacaaDoor
set_option linter.unusedVariables false

/-- What a list of symbols becomes. -/
inductive DerW (g : Gram) : List Sym → List Int → Prop where
  | nil : DerW g [] []
  | term (n : Int) (ss : List Sym) (u : List Int) (h : DerW g ss u) : DerW g (⟨true, n⟩ :: ss) (n :: u)
  | non (q : Rule) (ss : List Sym) (u v : List Int) (hq : q ∈ g.rules) (h1 : DerW g q.right u) (h2 : DerW g ss v) : DerW g (⟨false, q.left⟩ :: ss) (u ++ v)

mutual
theorem der_of_tree {g : Gram} : ∀ (t : Tree) (s : Sym), vt g t s → ∀ ss v, DerW g ss v → DerW g (s :: ss) (yieldT t ++ v)
  | ⟨r, t, ks⟩, ⟨st, sn⟩, h, ss, v, hv => by
    unfold vt at h
    cases st
    · rw [if_neg (by simp)] at h
      obtain ⟨_, hr, q, hq, hql, hks⟩ := h
      have hy : yieldT ⟨r, t, ks⟩ = yields ks := by unfold yieldT; rw [if_neg (by omega)]
      rw [hy]
      dsimp only at hql
      subst hql
      exact .non q ss _ v (List.mem_of_getElem? hq) (der_of_trees ks q.right hks) hv
    · rw [if_pos (by simp)] at h
      obtain ⟨hr, ht, _⟩ := h
      dsimp only at ht
      subst ht
      have hy : yieldT ⟨r, t, ks⟩ = [t] := by unfold yieldT; rw [if_pos (by omega)]
      rw [hy]
      exact .term t ss v hv
theorem der_of_trees {g : Gram} : ∀ (ks : List Tree) (ss : List Sym), vts g ks ss → DerW g ss (yields ks)
  | [], [], _ => by unfold yields; exact .nil
  | k :: ks, s :: ss, h => by
    unfold vts at h
    unfold yields
    exact der_of_tree k s h.1 ss _ (der_of_trees ks ss h.2)
  | [], _ :: _, h => by unfold vts at h; exact h.elim
  | _ :: _, [], h => by unfold vts at h; exact h.elim
end
theorem trees_of_der {g : Gram} {ss : List Sym} {u : List Int} (h : DerW g ss u) (hn : ∀ q ∈ g.rules, 0 ≤ q.left) : ∃ ks, vts g ks ss ∧ yields ks = u := by
  induction h with
  | nil => exact ⟨[], by unfold vts; trivial, by unfold yields; rfl⟩
  | term n ss u _ ih =>
    obtain ⟨ks, h1, h2⟩ := ih
    refine ⟨⟨-1, n, []⟩ :: ks, ?_, ?_⟩
    · unfold vts
      refine ⟨?_, h1⟩
      unfold vt
      rw [if_pos (by simp)]
      simp
    · unfold yields
      have hy : yieldT ⟨-1, n, []⟩ = [n] := by unfold yieldT; rw [if_pos (by omega)]
      rw [hy, h2]
      rfl
  | non q ss u v hq _ _ ih1 ih2 =>
    obtain ⟨k1, h1, h2⟩ := ih1
    obtain ⟨k2, h3, h4⟩ := ih2
    obtain ⟨i, hi⟩ := List.mem_iff_getElem?.1 hq
    refine ⟨⟨(i : Int), 0, k1⟩ :: k2, ?_, ?_⟩
    · unfold vts
      refine ⟨?_, h3⟩
      unfold vt
      rw [if_neg (by simp)]
      exact ⟨rfl, by omega, q, by simpa using hi, rfl, h1⟩
    · unfold yields
      have hy : yieldT ⟨(i : Int), 0, k1⟩ = yields k1 := by unfold yieldT; rw [if_neg (by omega)]
      rw [hy, h2, h4]
theorem DerW.append {g : Gram} {ss rr : List Sym} {u v : List Int} (h : DerW g ss u) (k : DerW g rr v) : DerW g (ss ++ rr) (u ++ v) := by
  induction h with
  | nil => exact k
  | term n ss u _ ih => exact .term n _ _ ih
  | non q ss u1 u2 hq h1 _ _ ih => rw [List.append_assoc]; exact .non q _ _ _ hq h1 ih
theorem DerW.split {g : Gram} {ss rr : List Sym} {u : List Int} (h : DerW g (ss ++ rr) u) : ∃ v x, u = v ++ x ∧ DerW g ss v ∧ DerW g rr x := by
  induction ss generalizing u with
  | nil => exact ⟨[], u, rfl, .nil, h⟩
  | cons s ss ih =>
    rw [List.cons_append] at h
    cases h with
    | term n _ u h =>
      obtain ⟨v, x, rfl, h1, h2⟩ := ih h
      exact ⟨n :: v, x, rfl, .term n _ _ h1, h2⟩
    | non q _ u1 u2 hq h1 h2 =>
      obtain ⟨v, x, rfl, h3, h4⟩ := ih h2
      exact ⟨u1 ++ v, x, by rw [List.append_assoc], .non q _ _ _ hq h1 h3, h4⟩
theorem DerW.one {g : Gram} {n : Int} {u : List Int} : DerW g [⟨false, n⟩] u ↔ ∃ q ∈ g.rules, q.left = n ∧ DerW g q.right u := by
  constructor
  · intro h
    cases h with
    | non q _ u1 u2 hq h1 h2 =>
      cases h2
      rw [List.append_nil]
      exact ⟨q, hq, rfl, h1⟩
  · rintro ⟨q, hq, rfl, h⟩
    have := DerW.non q [] u [] hq h .nil
    rwa [List.append_nil] at this
theorem DerW.cons2 {g : Gram} {s : Sym} {ss : List Sym} {u : List Int} : DerW g (s :: ss) u ↔ ∃ v x, u = v ++ x ∧ DerW g [s] v ∧ DerW g ss x := by
  constructor
  · intro h
    exact DerW.split (ss := [s]) h
  · rintro ⟨v, x, rfl, h1, h2⟩
    exact DerW.append h1 h2

/-! ### Masks -/
theorem testBit_low {k a j : Nat} : (2 ^ k * a).testBit j = (decide (k ≤ j) && a.testBit (j - k)) := by
  rw [Nat.mul_comm, Nat.testBit_mul_two_pow]
theorem low_bit {x : Nat} (h0 : x ≠ 0) (h : x < 2 ^ 32) : x.testBit (Lib.ctz 32 x) = true ∧ (∀ j, (x &&& (x - 1)).testBit j = (x.testBit j && decide (j ≠ Lib.ctz 32 x))) ∧ x &&& (x - 1) < x := by
  obtain ⟨m, hm, hk⟩ := Lib.ctzFrom_spec 32 x (by omega) h
  have e : Lib.ctz 32 x = Lib.ctzFrom 32 x := by simp [Lib.ctz, h0]
  rw [e]
  generalize Lib.ctzFrom 32 x = k at hm hk
  have hp : 0 < 2 ^ k := Nat.two_pow_pos k
  have e1 : x - 1 = 2 ^ k * (2 * m) + (2 ^ k - 1) := by
    rw [hm, Nat.mul_add]; omega
  have hx : ∀ j, x.testBit j = (decide (k ≤ j) && (2 * m + 1).testBit (j - k)) := fun j => by rw [hm]; exact testBit_low
  have hy : ∀ j, k ≤ j → (x - 1).testBit j = (2 * m).testBit (j - k) := fun j hj => by
    rw [e1, Nat.testBit_two_pow_mul_add _ (by omega), if_neg (by omega)]
  have hd : ∀ i, (2 * m + 1).testBit (i + 1) = m.testBit i := fun i => by rw [Nat.testBit_succ]; congr 1; omega
  have hd2 : ∀ i, (2 * m).testBit (i + 1) = m.testBit i := fun i => by rw [Nat.testBit_succ]; congr 1; omega
  refine ⟨?_, fun j => ?_, ?_⟩
  · rw [hx]
    simp [Nat.testBit_zero]
  · rw [Nat.testBit_and, hx]
    by_cases hj : k ≤ j
    · rw [hy j hj]
      by_cases he : j = k
      · subst he
        simp [Nat.testBit_zero]
      · obtain ⟨i, rfl⟩ : ∃ i, j = k + (i + 1) := ⟨j - k - 1, by omega⟩
        rw [show k + (i + 1) - k = i + 1 from by omega, hd, hd2]
        simp
    · simp [hj]
  · exact Nat.lt_of_le_of_lt Nat.and_le_right (by omega)

/-! ### The tables -/
def mskAt (T : List (List Nat)) (n i : Nat) : Nat := (T.getD n []).getD i 0
/-- Where the part ends that a symbol derives from a place on. -/
def hopM (w : List Int) (T : List (List Nat)) (s : Sym) (p : Nat) : Nat := if s.term then (if w[p]? = some s.n then 2 ^ (p + 1) else 0) else mskAt T s.n.toNat p
def Hop (w : List Int) (T : List (List Nat)) (s : Sym) (p j : Nat) : Prop := (hopM w T s p).testBit j = true
def Way (w : List Int) (T : List (List Nat)) : List Sym → Nat → Nat → Prop
  | [], i, j => i = j
  | s :: ss, i, j => ∃ k, Hop w T s i k ∧ Way w T ss k j
theorem Way.snoc {w : List Int} {T : List (List Nat)} {s : Sym} : ∀ (ss : List Sym) (i j : Nat), Way w T (ss ++ [s]) i j ↔ ∃ k, Way w T ss i k ∧ Hop w T s k j
  | [], i, j => by
    constructor
    · rintro ⟨k, h, rfl⟩
      exact ⟨i, rfl, h⟩
    · rintro ⟨k, rfl, h⟩
      exact ⟨j, h, rfl⟩
  | r :: ss, i, j => by
    constructor
    · rintro ⟨k, h, h2⟩
      obtain ⟨k2, h3, h4⟩ := (Way.snoc ss k j).1 h2
      exact ⟨k2, ⟨k, h, h3⟩, h4⟩
    · rintro ⟨k, ⟨k2, h1, h2⟩, h3⟩
      exact ⟨k2, h1, (Way.snoc ss k2 j).2 ⟨k, h2, h3⟩⟩
/-- The shape: n rows of masks for places of the word. -/
structure MskS (m n : Nat) (T : List (List Nat)) : Prop where
  len : T.length = n
  rows : ∀ (i : Nat) (row : List Nat), T[i]? = some row → row.length = m + 1
  low : ∀ a i, mskAt T a i < 2 ^ (m + 1)
theorem hop_lt {w : List Int} {T : List (List Nat)} {n : Nat} (h : MskS w.length n T) (s : Sym) {p : Nat} : hopM w T s p < 2 ^ (w.length + 1) := by
  unfold hopM
  split
  · split
    · rename_i h1
      have := (List.getElem?_eq_some_iff.1 h1).1
      exact Nat.pow_lt_pow_right (by omega) (by omega)
    · exact Nat.two_pow_pos _
  · exact h.low _ _
theorem Hop.le {w : List Int} {T : List (List Nat)} {n : Nat} (h : MskS w.length n T) {s : Sym} {p j : Nat} (hh : Hop w T s p j) : j ≤ w.length := by
  apply Nat.le_of_not_lt
  intro hlt
  have h1 : hopM w T s p < 2 ^ j := Nat.lt_of_lt_of_le (hop_lt h s) (Nat.pow_le_pow_right (by omega) (by omega))
  have h2 := Nat.testBit_lt_two_pow h1
  unfold Hop at hh
  rw [h2] at hh
  cases hh
theorem Way.le {w : List Int} {T : List (List Nat)} {n : Nat} (h : MskS w.length n T) : ∀ (ss : List Sym) (i j : Nat), i ≤ w.length → Way w T ss i j → j ≤ w.length
  | [], i, j, hi, hh => by have : i = j := hh; omega
  | s :: ss, i, j, hi, hh => by
    obtain ⟨k, h1, h2⟩ := hh
    exact Way.le h ss k j (h1.le h) h2
def segW (w : List Int) (i j : Nat) : List Int := (w.drop i).take (j - i)
theorem segW_self (w : List Int) (i : Nat) : segW w i i = [] := by simp [segW]
theorem segW_app (w : List Int) {i k j : Nat} (h1 : i ≤ k) (h2 : k ≤ j) : segW w i k ++ segW w k j = segW w i j := by
  unfold segW
  rw [show w.drop k = (w.drop i).drop (k - i) from by rw [List.drop_drop]; congr 1; omega]
  rw [show j - i = (k - i) + (j - k) from by omega, List.take_add]
theorem segW_one (w : List Int) {i : Nat} {x : Int} (h : w[i]? = some x) : segW w i (i + 1) = [x] := by
  unfold segW
  rw [show i + 1 - i = 1 from by omega]
  obtain ⟨hlt, rfl⟩ := List.getElem?_eq_some_iff.1 h
  rw [List.drop_eq_getElem_cons hlt]
  rfl
theorem segW_len (w : List Int) {i j : Nat} (h1 : i ≤ j) (h2 : j ≤ w.length) : (segW w i j).length = j - i := by
  unfold segW
  rw [List.length_take, List.length_drop]
  omega
theorem segW_all (w : List Int) : segW w 0 w.length = w := by simp [segW]
/-- What the tables say is so. -/
def SndM (g : Gram) (w : List Int) (T : List (List Nat)) : Prop := ∀ a i j, i ≤ w.length → (mskAt T a i).testBit j = true → i ≤ j ∧ j ≤ w.length ∧ DerW g [⟨false, (a : Int)⟩] (segW w i j)
/-- A rule at a place is closed. -/
def ClAt (w : List Int) (T : List (List Nat)) (q : Rule) (i : Nat) : Prop := ∀ j, Way w T q.right i j → (mskAt T q.left.toNat i).testBit j = true
def ClM (g : Gram) (w : List Int) (T : List (List Nat)) : Prop := ∀ q ∈ g.rules, ∀ i, i ≤ w.length → ClAt w T q i
theorem way_sound {g : Gram} {w : List Int} {T : List (List Nat)} (h : SndM g w T) : ∀ (ss : List Sym) (i j : Nat), (∀ s ∈ ss, 0 ≤ s.n) → i ≤ w.length → Way w T ss i j → i ≤ j ∧ j ≤ w.length ∧ DerW g ss (segW w i j)
  | [], i, j, _, hi, hh => by
    have e : i = j := hh
    subst e
    exact ⟨Nat.le_refl _, hi, by rw [segW_self]; exact .nil⟩
  | ⟨st, sn⟩ :: ss, i, j, hs, hi, hh => by
    obtain ⟨k, h1, h2⟩ := hh
    have key : i ≤ k ∧ k ≤ w.length ∧ DerW g [⟨st, sn⟩] (segW w i k) := by
      unfold Hop hopM at h1
      cases st
      · rw [if_neg (by simp)] at h1
        have h3 := h sn.toNat i k hi h1
        have h0 := hs ⟨false, sn⟩ (by simp)
        dsimp only at h0 h3
        rw [Int.toNat_of_nonneg h0] at h3
        exact h3
      · rw [if_pos (by simp)] at h1
        dsimp only at h1
        split at h1
        · rename_i h3
          rw [Nat.testBit_two_pow] at h1
          have e : i + 1 = k := by simpa using h1
          subst e
          have := (List.getElem?_eq_some_iff.1 h3).1
          refine ⟨by omega, by omega, ?_⟩
          rw [segW_one w h3]
          exact .term sn [] [] .nil
        · simp at h1
    obtain ⟨k1, k2, k3⟩ := key
    obtain ⟨r1, r2, r3⟩ := way_sound h ss k j (fun s hm => hs s (by simp [hm])) k2 h2
    refine ⟨by omega, r2, ?_⟩
    rw [← segW_app w k1 r1]
    exact DerW.append (ss := [⟨st, sn⟩]) k3 r3
theorem way_complete {g : Gram} {w : List Int} {T : List (List Nat)} (h : ClM g w T) {ss : List Sym} {u : List Int} (hd : DerW g ss u) : ∀ (i j : Nat), i ≤ j → j ≤ w.length → u = segW w i j → Way w T ss i j := by
  induction hd with
  | nil =>
    intro i j h1 h2 h3
    have := congrArg List.length h3
    rw [segW_len w h1 h2] at this
    simp at this
    show i = j
    omega
  | term n ss u _ ih =>
    intro i j h1 h2 h3
    have hl := congrArg List.length h3
    rw [segW_len w h1 h2] at hl
    simp only [List.length_cons] at hl
    have hi : i < w.length := by omega
    have h4 := segW_app w (show i ≤ i + 1 by omega) (show i + 1 ≤ j by omega)
    rw [segW_one w (List.getElem?_eq_getElem hi), ← h3] at h4
    simp only [List.cons_append, List.nil_append, List.cons.injEq] at h4
    refine ⟨i + 1, ?_, ih (i + 1) j (by omega) h2 h4.2.symm⟩
    unfold Hop hopM
    rw [if_pos (by simp)]
    dsimp only
    rw [if_pos (by rw [List.getElem?_eq_getElem hi, h4.1]), Nat.testBit_two_pow]
    simp
  | non q ss u v hq _ _ ih1 ih2 =>
    intro i j h1 h2 h3
    have hl := congrArg List.length h3
    rw [segW_len w h1 h2, List.length_append] at hl
    have h4 := segW_app w (show i ≤ i + u.length by omega) (show i + u.length ≤ j by omega)
    rw [← h3] at h4
    have h5 := List.append_inj h4 (by rw [segW_len w (by omega) (by omega)]; omega)
    have w1 := ih1 i (i + u.length) (by omega) (by omega) h5.1.symm
    refine ⟨i + u.length, ?_, ih2 _ j (by omega) h2 h5.2.symm⟩
    unfold Hop hopM
    rw [if_neg (by simp)]
    exact h q hq i (by omega) _ w1
/-- What Accepts answers. -/
theorem acc_iff {g : Gram} {w : List Int} {T : List (List Nat)} {a : Nat} (hs : SndM g w T) (hc : ClM g w T) : (mskAt T a 0).testBit w.length = true ↔ DerW g [⟨false, (a : Int)⟩] w := by
  constructor
  · intro h
    have h1 := (hs a 0 w.length (by omega) h).2.2
    rwa [segW_all] at h1
  · intro h
    obtain ⟨k, h1, h2⟩ := way_complete hc h 0 w.length (by omega) (Nat.le_refl _) (segW_all w).symm
    have e : k = w.length := h2
    subst e
    unfold Hop hopM at h1
    rw [if_neg (by simp)] at h1
    simpa using h1

/-! ### One step -/
def setM (T : List (List Nat)) (a i x : Nat) : List (List Nat) := T.set a ((T.getD a []).set i x)
theorem mskAt_set {m n : Nat} {T : List (List Nat)} (h : MskS m n T) {a i x : Nat} (ha : a < n) (hi : i ≤ m) (b j : Nat) : mskAt (setM T a i x) b j = if b = a ∧ j = i then x else mskAt T b j := by
  obtain ⟨row, hrow⟩ := get_some (show a < T.length by rw [h.len]; exact ha)
  have hl := h.rows a row hrow
  have e1 : T.getD a [] = row := by rw [List.getD_eq_getElem?_getD, hrow]; rfl
  unfold mskAt setM
  rw [e1, List.getD_eq_getElem?_getD (l := T.set _ _), List.getElem?_set]
  by_cases e : a = b
  · subst e
    rw [if_pos rfl, if_pos (by rw [h.len]; exact ha)]
    simp only [Option.getD_some, true_and]
    rw [List.getD_eq_getElem?_getD, List.getElem?_set, e1, List.getD_eq_getElem?_getD]
    by_cases e2 : i = j
    · subst e2
      rw [if_pos rfl, if_pos (by omega)]
      simp
    · rw [if_neg e2, if_neg (fun h => e2 h.symm)]
  · rw [if_neg e, if_neg (fun h => e h.1.symm), ← List.getD_eq_getElem?_getD]
theorem MskS.set_ {m n : Nat} {T : List (List Nat)} (h : MskS m n T) {a i x : Nat} (ha : a < n) (hi : i ≤ m) (hx : x < 2 ^ (m + 1)) : MskS m n (setM T a i x) := by
  refine ⟨by unfold setM; rw [List.length_set]; exact h.len, fun b row hb => ?_, fun b j => ?_⟩
  · unfold setM at hb
    rw [List.getElem?_set] at hb
    split at hb
    · split at hb
      · simp at hb
        subst hb
        obtain ⟨r2, hr2⟩ := get_some (show a < T.length by rw [h.len]; exact ha)
        rw [List.length_set, hr2]
        exact h.rows a r2 hr2
      · cases hb
    · exact h.rows b row hb
  · rw [mskAt_set h ha hi]
    split
    · exact hx
    · exact h.low b j
theorem or_mono {x y : Nat} {j : Nat} (h : x.testBit j = true) : (x ||| y).testBit j = true := by rw [Nat.testBit_or, h]; rfl
theorem SndM.step {g : Gram} {w : List Int} {n : Nat} {T : List (List Nat)} (h : SndM g w T) (hS : MskS w.length n T) {q : Rule} (hq : q ∈ g.rules) (hq0 : 0 ≤ q.left) (hqn : q.left.toNat < n) (hs : ∀ s ∈ q.right, 0 ≤ s.n) {i x : Nat} (hi : i ≤ w.length) (hx : ∀ j, x.testBit j = true → Way w T q.right i j) :
    SndM g w (setM T q.left.toNat i (mskAt T q.left.toNat i ||| x)) := by
  intro b p j hp hj
  rw [mskAt_set hS hqn hi] at hj
  split at hj
  · rename_i e
    obtain ⟨rfl, rfl⟩ := e
    rw [Nat.testBit_or, Bool.or_eq_true] at hj
    rcases hj with hj | hj
    · exact h _ _ _ hp hj
    · obtain ⟨r1, r2, r3⟩ := way_sound h q.right p j hs hi (hx j hj)
      refine ⟨r1, r2, DerW.one.2 ⟨q, hq, ?_, r3⟩⟩
      omega
  · exact h b p j hp hj
def fuelM (T : List (List Nat)) : Nat := (T.map fun r => (r.map fun v => 8192 - v).sum).sum
theorem fsum_set : ∀ (l : List Nat) (i x y : Nat), l[i]? = some x → y < x → (l.set i y).sum < l.sum
  | [], i, x, y, h, _ => by simp at h
  | a :: l, 0, x, y, h, hy => by simp at h; subst h; simp; omega
  | a :: l, i + 1, x, y, h, hy => by
    have := fsum_set l i x y (by simpa using h) hy
    simp
    exact this
theorem fuel_set {m n : Nat} {T : List (List Nat)} (h : MskS m n T) (hm : m ≤ 12) {a i x : Nat} (ha : a < n) (hi : i ≤ m) (hx : mskAt T a i < x) (hx2 : x < 2 ^ (m + 1)) : fuelM (setM T a i x) < fuelM T := by
  obtain ⟨row, hrow⟩ := get_some (show a < T.length by rw [h.len]; exact ha)
  have hl := h.rows a row hrow
  obtain ⟨v, hv⟩ := get_some (show i < row.length by omega)
  have e1 : T.getD a [] = row := by rw [List.getD_eq_getElem?_getD, hrow]; rfl
  have e2 : mskAt T a i = v := by unfold mskAt; rw [e1, List.getD_eq_getElem?_getD, hv]; rfl
  have h13 : 2 ^ (m + 1) ≤ 2 ^ 13 := Nat.pow_le_pow_right (by omega) (by omega)
  have h14 : (2 : Nat) ^ 13 = 8192 := rfl
  unfold fuelM setM
  rw [e1, List.map_set]
  apply fsum_set _ _ ((row.map fun v => 8192 - v).sum)
  · rw [List.getElem?_map, hrow]; rfl
  · rw [List.map_set]
    apply fsum_set _ _ (8192 - v)
    · rw [List.getElem?_map, hv]; rfl
    · omega
theorem or_lt {m x y : Nat} (hx : x < 2 ^ m) (hy : y < 2 ^ m) : x ||| y < 2 ^ m := Nat.or_lt_two_pow hx hy
/-- x &^ y, y below 2^32. -/
theorem andNot_bit {x y j : Nat} (hy : y < 2 ^ 32) (hj : j < 32) : (x &&& (4294967295 - y)).testBit j = (x.testBit j && !y.testBit j) := by
  rw [Nat.testBit_and, show 4294967295 - y = 2 ^ 32 - (y + 1) from by omega, Nat.testBit_two_pow_sub_succ hy]
  simp [hj]
theorem andNot_zero {x y : Nat} (hx : x < 2 ^ 32) (hy : y < 2 ^ 32) (h : x &&& (4294967295 - y) = 0) : ∀ j, x.testBit j = true → y.testBit j = true := by
  intro j hj
  have hj32 : j < 32 := by
    apply Nat.lt_of_not_le
    intro hle
    have h1 : x < 2 ^ j := Nat.lt_of_lt_of_le hx (Nat.pow_le_pow_right (by omega) hle)
    rw [Nat.testBit_lt_two_pow h1] at hj
    cases hj
  have h2 := andNot_bit (x := x) hy hj32
  rw [h, hj] at h2
  simpa using h2
theorem andNot_pos {x y : Nat} (hx : x < 2 ^ 32) (hy : y < 2 ^ 32) (h : x &&& (4294967295 - y) ≠ 0) : y < y ||| x := by
  apply Nat.lt_of_le_of_ne Nat.left_le_or
  intro e
  apply h
  apply Nat.eq_of_testBit_eq
  intro j
  rcases Nat.lt_or_ge j 32 with hj | hj
  · rw [andNot_bit hy hj, Nat.zero_testBit]
    have h1 : (y ||| x).testBit j = y.testBit j := by rw [← e]
    rw [Nat.testBit_or] at h1
    cases hyj : y.testBit j <;> cases hxj : x.testBit j <;> rw [hyj, hxj] at h1 <;> first | rfl | cases h1
  · rw [Nat.zero_testBit]
    exact Nat.testBit_lt_two_pow (Nat.lt_of_le_of_lt Nat.and_le_left (Nat.lt_of_lt_of_le hx (Nat.pow_le_pow_right (by omega) hj)))
theorem mskAt_init (n m a i : Nat) : mskAt (List.replicate n (List.replicate (m + 1) 0)) a i = 0 := by
  unfold mskAt
  have e : (List.replicate n (List.replicate (m + 1) 0)).getD a [] = if a < n then List.replicate (m + 1) 0 else [] := by
    rw [List.getD_eq_getElem?_getD, List.getElem?_replicate]
    split <;> rfl
  rw [e]
  split
  · rw [List.getD_eq_getElem?_getD, List.getElem?_replicate]
    split <;> rfl
  · rfl
theorem MskS.init (n m : Nat) : MskS m n (List.replicate n (List.replicate (m + 1) 0)) :=
  ⟨by simp, fun i row h => (by
    rw [List.getElem?_replicate] at h
    split at h
    · simp at h
      rw [← h]
      simp
    · cases h), fun a i => (by rw [mskAt_init]; exact Nat.two_pow_pos _)⟩
theorem SndM.init (g : Gram) (w : List Int) (n : Nat) : SndM g w (List.replicate n (List.replicate (w.length + 1) 0)) := fun a i j _ h => by
  rw [mskAt_init] at h
  simp at h
end Go.Proofs.YtaidadjekfcacaaDoor

/- The plain laws of closed.Star, Concat and Put: which words the combined grammars have. No program is named here. -/
namespace Go.Proofs.YtaidadjekfcacaaDoor
set_option linter.unusedVariables false

/-- Symbols go over into symbols, terminals into words. -/
theorem DerW.subst {g g' : Gram} (f : Sym → Sym) (σ : Int → List Int) (hT : ∀ n, DerW g' [f ⟨true, n⟩] (σ n)) (hN : ∀ q ∈ g.rules, ∃ q' ∈ g'.rules, f ⟨false, q.left⟩ = ⟨false, q'.left⟩ ∧ q'.right = q.right.map f) {ss : List Sym} {u : List Int} (h : DerW g ss u) : DerW g' (ss.map f) (u.flatMap σ) := by
  induction h with
  | nil => exact .nil
  | term n ss u _ ih =>
    rw [List.map_cons, List.flatMap_cons]
    exact DerW.append (ss := [f ⟨true, n⟩]) (hT n) ih
  | non q ss u v hq _ _ ih1 ih2 =>
    obtain ⟨q', hq', e1, e2⟩ := hN q hq
    rw [List.map_cons, List.flatMap_append, e1]
    exact .non q' _ _ _ hq' (by rw [e2]; exact ih1) ih2
theorem flatMap_one : ∀ (u : List Int), (u.flatMap fun x => [x]) = u
  | [] => rfl
  | x :: u => by rw [List.flatMap_cons, flatMap_one u]; rfl
theorem DerW.map {g g' : Gram} (f : Sym → Sym) (hT : ∀ n, f ⟨true, n⟩ = ⟨true, n⟩) (hN : ∀ q ∈ g.rules, ∃ q' ∈ g'.rules, f ⟨false, q.left⟩ = ⟨false, q'.left⟩ ∧ q'.right = q.right.map f) {ss : List Sym} {u : List Int} (h : DerW g ss u) : DerW g' (ss.map f) u := by
  have := DerW.subst f (fun x => [x]) (fun n => by rw [hT]; exact .term n [] [] .nil) hN h
  rwa [flatMap_one] at this
/-- And back, where the rules of what comes of a symbol are the symbol's own. -/
theorem DerW.unmap {g g' : Gram} (f : Sym → Sym) (P : Sym → Prop) (hT : ∀ s n, P s → f s = ⟨true, n⟩ → s = ⟨true, n⟩) (hN : ∀ q' ∈ g'.rules, ∀ s, P s → f s = ⟨false, q'.left⟩ → ∃ q ∈ g.rules, s = ⟨false, q.left⟩ ∧ q'.right = q.right.map f ∧ ∀ x ∈ q.right, P x) {ss' : List Sym} {u : List Int} (h : DerW g' ss' u) :
    ∀ ss, ss' = ss.map f → (∀ s ∈ ss, P s) → DerW g ss u := by
  induction h with
  | nil =>
    intro ss e _
    cases ss with
    | nil => exact .nil
    | cons s ss => simp at e
  | term n rr u _ ih =>
    intro ss e hP
    cases ss with
    | nil => simp at e
    | cons s ss =>
      rw [List.map_cons] at e
      injection e with e1 e2
      rw [hT s n (hP s (by simp)) e1.symm]
      exact .term n _ _ (ih ss e2 (fun x hx => hP x (by simp [hx])))
  | non q' rr u v hq _ _ ih1 ih2 =>
    intro ss e hP
    cases ss with
    | nil => simp at e
    | cons s ss =>
      rw [List.map_cons] at e
      injection e with e1 e2
      obtain ⟨q, hq1, rfl, hq2, hq3⟩ := hN q' hq s (hP s (by simp)) e1.symm
      exact .non q _ _ _ hq1 (ih1 q.right hq2 hq3) (ih2 ss e2 (fun x hx => hP x (by simp [hx])))

/-! ### Shifting nonterminals -/
def shS (k : Int) (s : Sym) : Sym := if s.term then s else ⟨false, s.n + k⟩
def shR (k : Int) (q : Rule) : Rule := ⟨q.left + k, q.right.map (shS k)⟩
def NonIn (n : Int) (s : Sym) : Prop := s.term = false → 0 ≤ s.n ∧ s.n < n
/-- The rules are of the nonterminals 0 .. n-1. -/
def InN (g : Gram) (n : Int) : Prop := ∀ q ∈ g.rules, (0 ≤ q.left ∧ q.left < n) ∧ ∀ s ∈ q.right, NonIn n s
theorem shS_term (k n : Int) : shS k ⟨true, n⟩ = ⟨true, n⟩ := by simp [shS]
theorem shS_non (k n : Int) : shS k ⟨false, n⟩ = ⟨false, n + k⟩ := by simp [shS]
/-- A grammar whose rules with a left side among k .. k+n-1 are the shifted ones of g. -/
structure Part (g g' : Gram) (k n : Int) : Prop where
  there : ∀ q ∈ g.rules, shR k q ∈ g'.rules
  back : ∀ q' ∈ g'.rules, k ≤ q'.left → q'.left < k + n → ∃ q ∈ g.rules, q' = shR k q
theorem Part.der {g g' : Gram} {k n : Int} (h : Part g g' k n) (hg : InN g n) {a : Int} (ha : 0 ≤ a) (han : a < n) (u : List Int) : DerW g' [⟨false, a + k⟩] u ↔ DerW g [⟨false, a⟩] u := by
  constructor
  · intro hd
    refine DerW.unmap (shS k) (NonIn n) (fun s m hs e => ?_) (fun q' hq' s hs e => ?_) hd [⟨false, a⟩] (by simp [shS]) (fun s hs => ?_)
    · obtain ⟨st, sn⟩ := s
      cases st
      · rw [shS_non] at e; injection e with e _; cases e
      · rw [shS_term] at e; exact e
    · obtain ⟨st, sn⟩ := s
      cases st
      · rw [shS_non] at e
        injection e with _ e
        have h1 := hs rfl
        dsimp only at h1
        obtain ⟨q, hq, rfl⟩ := h.back q' hq' (by omega) (by omega)
        refine ⟨q, hq, ?_, rfl, (hg q hq).2⟩
        have e' : sn + k = q.left + k := e
        rw [show sn = q.left by omega]
      · rw [shS_term] at e; injection e with e _; cases e
    · simp at hs
      subst hs
      exact fun _ => ⟨ha, han⟩
  · intro hd
    have := DerW.map (g' := g') (shS k) (shS_term k) (fun q hq => ⟨shR k q, h.there q hq, shS_non k q.left, rfl⟩) hd
    simpa [shS] using this

/-! ### Star -/
def starG (a : Gram) : Gram := ⟨a.terms, a.nons + 1, a.nons, a.rules.map (shR 0) ++ [⟨a.nons, []⟩, ⟨a.nons, [⟨false, a.nons⟩, ⟨false, a.start⟩]⟩]⟩
def StarW (a : Gram) (w : List Int) : Prop := w = [] ∨ ∃ k, k < w.length ∧ DerW (starG a) [⟨false, a.nons⟩] (w.take k) ∧ DerW a [⟨false, a.start⟩] (w.drop k)
theorem star_part {a : Gram} (ha : InN a a.nons) : Part a (starG a) 0 a.nons := by
  refine ⟨fun q hq => ?_, fun q' hq' h1 h2 => ?_⟩
  · unfold starG
    exact List.mem_append_left _ (List.mem_map_of_mem hq)
  · unfold starG at hq'
    rcases List.mem_append.1 hq' with h | h
    · obtain ⟨q, hq, rfl⟩ := List.mem_map.1 h
      exact ⟨q, hq, rfl⟩
    · simp at h
      rcases h with rfl | rfl
      · dsimp only at h2; omega
      · dsimp only at h2; omega
theorem star_to {a : Gram} (ha : InN a a.nons) (hs : 0 ≤ a.start ∧ a.start < a.nons) {ss : List Sym} {u : List Int} (h : DerW (starG a) ss u) : ∀ rest, ss = ⟨false, a.nons⟩ :: rest → ∃ v x, u = v ++ x ∧ DerW (starG a) [⟨false, a.nons⟩] v ∧ StarW a v ∧ DerW (starG a) rest x := by
  induction h with
  | nil => intro rest e; simp at e
  | term n ss u _ _ => intro rest e; injection e with e _; injection e with e _; cases e
  | non q ss u v hq h1 h2 ih1 ih2 =>
    intro rest e
    injection e with e1 e2
    injection e1 with _ e1
    subst e2
    refine ⟨u, v, rfl, ?_, ?_, h2⟩
    · have := DerW.non q [] u [] hq h1 .nil
      rw [List.append_nil, e1] at this
      exact this
    · unfold starG at hq
      rcases List.mem_append.1 hq with hm | hm
      · obtain ⟨q0, hq0, rfl⟩ := List.mem_map.1 hm
        have := (ha q0 hq0).1
        unfold shR at e1
        dsimp only at e1
        omega
      · simp at hm
        rcases hm with rfl | rfl
        · cases h1
          exact .inl rfl
        · obtain ⟨v', x, rfl, d1, d2, d3⟩ := ih1 [⟨false, a.start⟩] rfl
          have d4 : DerW a [⟨false, a.start⟩] x := by
            have := (star_part ha).der ha hs.1 hs.2 x
            rw [Int.add_zero] at this
            exact this.1 d3
          by_cases hx : x = []
          · subst hx
            rw [List.append_nil]
            exact d2
          · refine .inr ⟨v'.length, ?_, ?_, ?_⟩
            · rw [List.length_append]
              have : 0 < x.length := List.length_pos_iff.2 hx
              omega
            · rw [List.take_left]; exact d1
            · rw [List.drop_left]; exact d4
theorem star_iff {a : Gram} (ha : InN a a.nons) (hs : 0 ≤ a.start ∧ a.start < a.nons) (w : List Int) : DerW (starG a) [⟨false, a.nons⟩] w ↔ StarW a w := by
  constructor
  · intro h
    obtain ⟨v, x, rfl, _, h2, h3⟩ := star_to ha hs h [] rfl
    cases h3
    rw [List.append_nil]
    exact h2
  · rintro (rfl | ⟨k, hk, h1, h2⟩)
    · exact DerW.one.2 ⟨⟨a.nons, []⟩, by simp [starG], rfl, .nil⟩
    · refine DerW.one.2 ⟨⟨a.nons, [⟨false, a.nons⟩, ⟨false, a.start⟩]⟩, by simp [starG], rfl, ?_⟩
      have h3 : DerW (starG a) [⟨false, a.start⟩] (w.drop k) := by
        have := (star_part ha).der ha hs.1 hs.2 (w.drop k)
        rw [Int.add_zero] at this
        exact this.2 h2
      have := DerW.append h1 h3
      rwa [List.take_append_drop] at this

/-! ### Concat -/
def concatG (a b : Gram) : Gram := ⟨a.terms, a.nons + b.nons + 1, a.nons + b.nons, a.rules.map (shR 0) ++ b.rules.map (shR a.nons) ++ [⟨a.nons + b.nons, [⟨false, a.start⟩, ⟨false, a.nons + b.start⟩]⟩]⟩
theorem concat_part1 {a b : Gram} (ha : InN a a.nons) (hb : InN b b.nons) (hn : 0 ≤ b.nons) : Part a (concatG a b) 0 a.nons := by
  refine ⟨fun q hq => ?_, fun q' hq' h1 h2 => ?_⟩
  · unfold concatG
    exact List.mem_append_left _ (List.mem_append_left _ (List.mem_map_of_mem hq))
  · unfold concatG at hq'
    rcases List.mem_append.1 hq' with h | h
    · rcases List.mem_append.1 h with h | h
      · obtain ⟨q, hq, rfl⟩ := List.mem_map.1 h
        exact ⟨q, hq, rfl⟩
      · obtain ⟨q, hq, rfl⟩ := List.mem_map.1 h
        have := (hb q hq).1
        unfold shR at h2
        dsimp only at h2
        omega
    · simp at h
      subst h
      dsimp only at h2
      omega
theorem concat_part2 {a b : Gram} (ha : InN a a.nons) (hb : InN b b.nons) : Part b (concatG a b) a.nons b.nons := by
  refine ⟨fun q hq => ?_, fun q' hq' h1 h2 => ?_⟩
  · unfold concatG
    exact List.mem_append_left _ (List.mem_append_right _ (List.mem_map_of_mem hq))
  · unfold concatG at hq'
    rcases List.mem_append.1 hq' with h | h
    · rcases List.mem_append.1 h with h | h
      · obtain ⟨q, hq, rfl⟩ := List.mem_map.1 h
        have := (ha q hq).1
        unfold shR at h1
        dsimp only at h1
        omega
      · obtain ⟨q, hq, rfl⟩ := List.mem_map.1 h
        exact ⟨q, hq, rfl⟩
    · simp at h
      subst h
      dsimp only at h2
      omega
theorem concat_iff {a b : Gram} (ha : InN a a.nons) (hb : InN b b.nons) (hsa : 0 ≤ a.start ∧ a.start < a.nons) (hsb : 0 ≤ b.start ∧ b.start < b.nons) (w : List Int) :
    DerW (concatG a b) [⟨false, a.nons + b.nons⟩] w ↔ ∃ k, k ≤ w.length ∧ DerW a [⟨false, a.start⟩] (w.take k) ∧ DerW b [⟨false, b.start⟩] (w.drop k) := by
  have p1 := fun u => (concat_part1 ha hb (by omega)).der ha hsa.1 hsa.2 u
  have p2 := fun u => (concat_part2 ha hb).der hb hsb.1 hsb.2 u
  constructor
  · intro h
    obtain ⟨q, hq, hl, hd⟩ := DerW.one.1 h
    unfold concatG at hq
    rcases List.mem_append.1 hq with hm | hm
    · rcases List.mem_append.1 hm with hm | hm
      · obtain ⟨q0, hq0, rfl⟩ := List.mem_map.1 hm
        have := (ha q0 hq0).1
        unfold shR at hl
        dsimp only at hl
        omega
      · obtain ⟨q0, hq0, rfl⟩ := List.mem_map.1 hm
        have := (hb q0 hq0).1
        unfold shR at hl
        dsimp only at hl
        omega
    · simp at hm
      subst hm
      obtain ⟨v, x, rfl, h1, h2⟩ := DerW.cons2.1 hd
      refine ⟨v.length, by simp, ?_, ?_⟩
      · rw [List.take_left]
        have := p1 v
        rw [Int.add_zero] at this
        exact this.1 h1
      · rw [List.drop_left]
        have := p2 x
        rw [Int.add_comm] at this
        exact this.1 h2
  · rintro ⟨k, hk, h1, h2⟩
    refine DerW.one.2 ⟨⟨a.nons + b.nons, [⟨false, a.start⟩, ⟨false, a.nons + b.start⟩]⟩, by simp [concatG], rfl, ?_⟩
    have h3 := p1 (w.take k)
    rw [Int.add_zero] at h3
    have h4 := p2 (w.drop k)
    rw [Int.add_comm b.start] at h4
    have := DerW.append (h3.2 h1) (h4.2 h2)
    rwa [List.take_append_drop] at this

/-! ### Put -/
def putS (t m : Int) (s : Sym) : Sym := if s = ⟨true, t⟩ then ⟨false, m⟩ else s
def putR (t m : Int) (q : Rule) : Rule := ⟨q.left, q.right.map (putS t m)⟩
def putG (a : Gram) (t : Int) (b : Gram) : Gram := ⟨a.terms, a.nons + b.nons, a.start, (a.rules.map (shR 0)).map (putR t (a.nons + b.start)) ++ b.rules.map (shR a.nons)⟩
theorem put_part2 {a b : Gram} (t : Int) (ha : InN a a.nons) (hb : InN b b.nons) : Part b (putG a t b) a.nons b.nons := by
  refine ⟨fun q hq => ?_, fun q' hq' h1 h2 => ?_⟩
  · unfold putG
    exact List.mem_append_right _ (List.mem_map_of_mem hq)
  · unfold putG at hq'
    rcases List.mem_append.1 hq' with h | h
    · obtain ⟨q1, hq1, rfl⟩ := List.mem_map.1 h
      obtain ⟨q, hq, rfl⟩ := List.mem_map.1 hq1
      have := (ha q hq).1
      unfold putR shR at h1
      dsimp only at h1
      omega
    · obtain ⟨q, hq, rfl⟩ := List.mem_map.1 h
      exact ⟨q, hq, rfl⟩
theorem put_der {a b : Gram} {t : Int} (ha : InN a a.nons) (hb : InN b b.nons) (hsb : 0 ≤ b.start ∧ b.start < b.nons) {y u : List Int} (hu : DerW b [⟨false, b.start⟩] u) (hy : DerW a [⟨false, a.start⟩] y) :
    DerW (putG a t b) [⟨false, a.start⟩] (y.flatMap fun x => if x = t then u else [x]) := by
  have h1 : DerW (putG a t b) [⟨false, a.nons + b.start⟩] u := by
    have := (put_part2 t ha hb).der hb hsb.1 hsb.2 u
    rw [Int.add_comm] at this
    exact this.2 hu
  have h2 := DerW.subst (g' := putG a t b) (fun s => putS t (a.nons + b.start) (shS 0 s)) (fun x => if x = t then u else [x]) (fun n => by
    rw [shS_term]
    unfold putS
    by_cases e : n = t
    · subst e; simp [h1]
    · rw [if_neg (by simp [e]), if_neg e]
      exact .term n [] [] .nil) (fun q hq => ⟨putR t (a.nons + b.start) (shR 0 q), by unfold putG; exact List.mem_append_left _ (List.mem_map_of_mem (List.mem_map_of_mem hq)), by rw [shS_non]; simp [putS, putR, shR], by simp [putR, shR]⟩) hy
  simpa [shS, putS] using h2
end Go.Proofs.YtaidadjekfcacaaDoor

/- The index of the first element that a predicate takes; a function's number that is entered by a call through a value. -/
namespace Go.Proofs.YtaidadjekfcacaaDoor
open Go.RowKit

def idxI {α : Type} (p : α → Bool) (xs : List α) : Int := if xs.any p then (xs.findIdx p : Nat) else -1
theorem idxI_hit {α : Type} {p : α → Bool} {xs : List α} {k : Nat} {x : α} (hx : xs[k]? = some x) (hp : p x = true) (hno : ∀ y ∈ xs.take k, p y = false) : idxI p xs = k := by
  have hlt := (List.getElem?_eq_some_iff.1 hx).1
  have hm : x ∈ xs := List.mem_of_getElem? hx
  have ha : xs.any p = true := List.any_eq_true.2 ⟨x, hm, hp⟩
  rw [idxI, if_pos ha]
  congr 1
  have e : xs = xs.take k ++ x :: xs.drop (k + 1) := by rw [← drop_cons hx, List.take_append_drop]
  have h1 : (xs.take k).length = k := by simp; omega
  rw [e, List.findIdx_append, if_neg (by rw [h1]; intro h; have := List.findIdx_lt_length.1 (by rw [h1]; exact h : (xs.take k).findIdx p < (xs.take k).length); obtain ⟨y, hy, hpy⟩ := this; rw [hno y hy] at hpy; cases hpy)]
  rw [List.findIdx_cons, hp, h1]; simp
theorem idxI_none {α : Type} {p : α → Bool} {xs : List α} (hno : ∀ y ∈ xs, p y = false) : idxI p xs = -1 := by
  rw [idxI, if_neg]
  intro h
  obtain ⟨y, hy, hp⟩ := List.any_eq_true.1 h
  rw [hno y hy] at hp; cases hp
theorem idxI_nonneg {α : Type} (p : α → Bool) (xs : List α) : decide (0 ≤ idxI p xs) = xs.any p := by
  unfold idxI; split
  · rename_i h; rw [h]; simp
  · rename_i h; simp only [Bool.not_eq_true] at h; rw [h]; rfl
def IsGo (F : Nat) : Prop := ∀ (args : Array Value) (W : World), (callFunc F args).run Tryd.prog W = .ok (.enter F args) W
theorem isGo_of {F : Nat} {fn : Func} (hf : Tryd.prog.funcs[F]? = some fn) (h1 : (fn.name == "runtime.NumGoroutine") = false) (h2 : fn.body.isNone = false) : IsGo F := by
  intro args W
  have h1' : ¬ fn.name = "runtime.NumGoroutine" := by simpa using h1
  have h2' : ¬ fn.body = none := by intro e; rw [e] at h2; cases h2
  simp [callFunc, program, Sem.run, hf, h1', h2']

end Go.Proofs.YtaidadjekfcacaaDoor

/- A world that has kept all its blocks but those of a set. No program is named here. -/
namespace Go.Proofs.YtaidadjekfcacaaDoor
open Go.RowKit
set_option linter.unusedVariables false

/-- w' is w with new blocks, and with writes to blocks of X alone. -/
structure Kept (X : Nat → Prop) (w w' : World) : Prop where
  os : w'.os = w.os
  tape : w'.tape = w.tape
  output : w'.output = w.output
  size : w.heap.size ≤ w'.heap.size
  block : ∀ k, k < w.heap.size → ¬ X k → w'.heap[k]? = w.heap[k]?
section
variable {X Y : Nat → Prop} {w w' w'' : World}
theorem Kept.refl (X : Nat → Prop) (w : World) : Kept X w w := ⟨rfl, rfl, rfl, Nat.le_refl _, fun _ _ _ => rfl⟩
theorem Kept.trans (h : Kept X w w') (k : Kept X w' w'') : Kept X w w'' :=
  ⟨k.os.trans h.os, k.tape.trans h.tape, k.output.trans h.output, Nat.le_trans h.size k.size, fun i hi hx => (k.block i (Nat.lt_of_lt_of_le hi h.size) hx).trans (h.block i hi hx)⟩
theorem Kept.mono (h : Kept X w w') (hx : ∀ b, b < w.heap.size → X b → Y b) : Kept Y w w' := ⟨h.os, h.tape, h.output, h.size, fun k hk hy => h.block k hk (fun hb => hy (hx k hk hb))⟩
theorem Kept.of_below (X : Nat → Prop) (h : Below w.heap.size w w') : Kept X w w' := ⟨h.os, h.tape, h.output, h.size, fun k hk _ => h.block k hk⟩
theorem Kept.of_grown {row : Option Nat} (h : w.grownBy w' row) (hX : ∀ k, row = some k → X k) : Kept X w w' := ⟨h.os, h.tape, h.output, h.size, fun k hk hx => h.block k hk (fun e => hx (hX k e.symm))⟩
theorem Kept.alloc (h : Kept X w w') (o : Obj) : Kept X w (w'.alloc o) := h.trans (Kept.of_below X ((Below.refl _ _).alloc (Nat.le_refl _) o))
theorem Kept.drew (h : Kept X w w') : Kept X w w'.drew := ⟨h.os, h.tape, h.output, h.size, h.block⟩
theorem Kept.below (h : Kept X w w') (k : Below w'.heap.size w' w'') : Kept X w w'' := h.trans (Kept.of_below X k)
theorem Kept.grown {row : Option Nat} (h : Kept X w w') (k : w'.grownBy w'' row) (hX : ∀ k, row = some k → X k ∨ w.heap.size ≤ k) : Kept X w w'' :=
  ⟨k.os.trans h.os, k.tape.trans h.tape, k.output.trans h.output, Nat.le_trans h.size k.size, fun i hi hx => (k.block i (Nat.lt_of_lt_of_le hi h.size) (fun e => by
    rcases hX i e.symm with q | q
    · exact hx q
    · omega)).trans (h.block i hi hx)⟩
theorem Kept.setCell (h : Kept X w w') {p : Addr} (hp : X p.block ∨ w.heap.size ≤ p.block) (u : Value) : Kept X w (w'.setCell p u) :=
  ⟨h.os, h.tape, h.output, by simpa [World.setCell] using h.size, fun i hi hx => (Below.heap_setCell _ _ _ _ (by
    rintro rfl
    rcases hp with q | q
    · exact hx q
    · omega)).trans (h.block i hi hx)⟩
theorem Kept.to_below {B : Nat} (h : Kept X w w') (hX : ∀ b, X b → B ≤ b) (hB : B ≤ w.heap.size) : Below B w w' :=
  ⟨h.os, h.tape, h.output, h.size, fun k hk => h.block k (by omega) (fun hx => by have := hX k hx; omega)⟩
theorem Kept.later (h : Kept X w w') (k : Kept Y w' w'') (hY : ∀ b, Y b → X b ∨ w.heap.size ≤ b) : Kept X w w'' :=
  ⟨k.os.trans h.os, k.tape.trans h.tape, k.output.trans h.output, Nat.le_trans h.size k.size, fun i hi hx => (k.block i (Nat.lt_of_lt_of_le hi h.size) (fun hy => by
    rcases hY i hy with q | q
    · exact hx q
    · omega)).trans (h.block i hi hx)⟩
theorem Kept.undrew {w : World} (h : Kept X w.drew w') : Kept X w w' := ⟨h.os, h.tape, h.output, h.size, h.block⟩
theorem Kept.cell {p : Addr} (h : Kept X w w') (hp : p.block < w.heap.size) (hx : ¬ X p.block) : w'.cell? p = w.cell? p := World.cell?_of_block (h.block p.block hp hx)
theorem Blk'.kept {g : Nat} {t : TypeId} {cs : Array Value} (h : Blk' w g t cs) (k : Kept X w w') (hx : ¬ X g) : Blk' w' g t cs := (k.block g h.lt hx).trans h
theorem Els.kept {α : Type} [Dat α] {S : Nat → Prop} {xs : List α} {A : Option Addr} (h : Els w S xs A) (k : Kept X w w') (hx : ∀ b, S b → ¬ X b) : Els w' S xs A :=
  h.keep (fun p hs hp => k.cell hp (hx _ hs)) (fun _ h => h)
theorem Vl.kept {α : Type} [Dat α] {S : Nat → Prop} {x : α} {v : Value} (h : Vl w S x v) (k : Kept X w w') (hx : ∀ b, S b → ¬ X b) : Vl w' S x v :=
  h.keep (fun p hs hp => k.cell hp (hx _ hs)) (fun _ h => h)
theorem Own.kept {α : Type} [Dat α] {S : Nat → Prop} {base : Nat} {e : TypeId} {v : Value} {xs : List α} (h : Own w S base e v xs) (k : Kept X w w') (hx : ∀ b, X b → ¬ (S b ∨ base ≤ b)) : Own w' S base e v xs := by
  obtain ⟨css, h1, h2, h3⟩ := h
  have hg : ∀ g, v.ownBlock = some g → w'.heap[g]? = w.heap[g]? := fun g hg => k.block g (h1.lt g hg).2 (fun hX => hx g hX (.inr (h1.lt g hg).1))
  refine ⟨css, ?_, h2, fun i x cs hi hc => Dat.keep (fun p hp hlt => k.cell hlt (fun hX => hx _ hX hp.1)) (fun b hb => ⟨hb.1, hb.2.1, Nat.lt_of_lt_of_le hb.2.2 k.size⟩) (h3 i x cs hi hc)⟩
  refine ⟨h1.1, ?_⟩
  rcases h1.2 with q | ⟨g, cap, cur, q1, q2, q3, q4⟩
  · exact .inl q
  · exact .inr ⟨g, cap, cur, q1, q2, (hg g (by rw [q1]; rfl)).trans q3, q4⟩
end
end Go.Proofs.YtaidadjekfcacaaDoor

/- Rules with the blocks of their right sides: a row of rules whose right sides lie apart, and a store into one of them. No program is named here. -/
namespace Go.Proofs.YtaidadjekfcacaaDoor
open Go.RowKit
set_option linter.unusedVariables false

structure RuleB where
  rule : Rule
  blk : Nat
instance instDatRuleB : Dat RuleB where
  size := 2
  wraps := true
  rd w S r cs := ∃ v, cs = [.int .i64 r.rule.left, v] ∧ I64 r.rule.left ∧ Vl w (fun b => b = r.blk ∧ S b) r.rule.right v
  len h := by obtain ⟨v, rfl, _⟩ := h; rfl
  pos := by decide
  flat h := by simp at h
  one h := by
    obtain ⟨v, rfl, _, hv⟩ := h
    obtain ⟨A, c, rfl, _⟩ := hv.slice
    intro u hu; simp at hu; rcases hu with rfl | rfl <;> rfl
  keep hk hS h := by obtain ⟨v, h1, h2, h3⟩ := h; exact ⟨v, h1, h2, h3.keep (fun p hp => hk p hp.2) (fun b hb => ⟨hb.1, hS b hb.2⟩)⟩

section
variable {w w' : World} {S : Nat → Prop} {base : Nat} {e : TypeId} {v : Value} {xs : List RuleB}
theorem Own.rules (h : Own w S base e v xs) : Own w S base e v (xs.map RuleB.rule) := by
  obtain ⟨css, h1, h2, h3⟩ := h
  refine ⟨css, by rw [List.length_map]; exact h1, by rw [List.length_map]; exact h2, fun i x cs hi hc => ?_⟩
  rw [List.getElem?_map] at hi
  cases hx : xs[i]? with
  | none => rw [hx] at hi; cases hi
  | some y =>
    rw [hx] at hi
    injection hi with hi
    subst hi
    obtain ⟨u, h4, h5, h6⟩ := h3 i y cs hx hc
    exact ⟨u, h4, h5, h6.keep (fun _ _ _ => rfl) (fun b hb => hb.2)⟩
/-- The right sides lie in blocks of their own, from lo on. -/
structure Frs (w : World) (lo : Nat) (xs : List RuleB) : Prop where
  apart : ∀ (i k : Nat) (x y : RuleB), xs[i]? = some x → xs[k]? = some y → i ≠ k → x.blk ≠ y.blk
  cells : ∀ x ∈ xs, lo ≤ x.blk ∧ x.blk < w.heap.size ∧ (x.rule.right ≠ [] → ∃ t cur, Blk' w x.blk t cur)
theorem Frs.nil (w : World) (lo : Nat) : Frs w lo [] := ⟨fun i k x y h => by simp at h, fun x h => by simp at h⟩
theorem Frs.kept {X : Nat → Prop} {lo : Nat} (h : Frs w lo xs) (k : Kept X w w') (hx : ∀ x ∈ xs, x.rule.right ≠ [] → ¬ X x.blk) : Frs w' lo xs :=
  ⟨h.apart, fun x hm => by
    obtain ⟨h1, h2, h3⟩ := h.cells x hm
    refine ⟨h1, Nat.lt_of_lt_of_le h2 k.size, fun hne => ?_⟩
    obtain ⟨t, cur, hb⟩ := h3 hne
    exact ⟨t, cur, hb.kept k (hx x hm hne)⟩⟩
theorem Frs.below {lo : Nat} (h : Frs w lo xs) (k : Below w.heap.size w w') : Frs w' lo xs := h.kept (Kept.of_below (fun _ => False) k) (fun _ _ _ h => h)
theorem Frs.snoc {lo : Nat} {x : RuleB} (h : Frs w lo xs) (hl : lo ≤ x.blk) (hs : x.blk < w.heap.size) (hc : x.rule.right ≠ [] → ∃ t cur, Blk' w x.blk t cur) (hn : ∀ y ∈ xs, y.blk ≠ x.blk) : Frs w lo (xs ++ [x]) := by
  refine ⟨fun i k a b hi hk hne => ?_, fun y hy => ?_⟩
  · rcases Nat.lt_or_ge i xs.length with h1 | h1
    · rw [List.getElem?_append_left h1] at hi
      rcases Nat.lt_or_ge k xs.length with h2 | h2
      · rw [List.getElem?_append_left h2] at hk
        exact h.apart i k a b hi hk hne
      · rw [List.getElem?_append_right h2] at hk
        obtain ⟨h3, h4⟩ := List.getElem?_eq_some_iff.1 hk
        simp at h4
        subst h4
        exact hn a (List.mem_of_getElem? hi)
    · rw [List.getElem?_append_right h1] at hi
      obtain ⟨h3, h4⟩ := List.getElem?_eq_some_iff.1 hi
      simp at h3 h4
      subst h4
      rcases Nat.lt_or_ge k xs.length with h2 | h2
      · rw [List.getElem?_append_left h2] at hk
        exact fun e => hn b (List.mem_of_getElem? hk) e.symm
      · rw [List.getElem?_append_right h2] at hk
        obtain ⟨h5, h6⟩ := List.getElem?_eq_some_iff.1 hk
        simp at h5
        omega
  · rcases List.mem_append.1 hy with hy | hy
    · exact h.cells y hy
    · simp at hy
      subst hy
      exact ⟨hl, hs, hc⟩
theorem Own.ruleNe (h : Own w S base e v xs) {x : RuleB} (hx : x ∈ xs) (hne : x.rule.right ≠ []) : v.ownBlock ≠ some x.blk := by
  obtain ⟨i, hi, rfl⟩ := List.getElem_of_mem hx
  obtain ⟨g, c, cs, _, _, _, hrd, _⟩ := h.at_ (List.getElem?_eq_getElem hi)
  obtain ⟨u, _, _, hv⟩ := hrd
  obtain ⟨A, c', rfl, _, _, hE⟩ := hv.slice
  obtain ⟨b, o, _, ⟨hb, hT⟩, _⟩ := hE hne
  rw [← hb]
  exact hT.2.1
/-- A row's rule, for a load. -/
theorem Own.ruleB (h : Own w S base e v xs) {k : Nat} {x : RuleB} (hk : xs[k]? = some x) :
    ∃ g cap A c, v = .slice (some ⟨g, 0, none⟩) xs.length cap ∧ base ≤ g ∧ g < w.heap.size ∧ I64 x.rule.left ∧ x.rule.right.length ≤ c ∧ c ≤ 9223372036854775807 ∧ Els w (fun b => b = x.blk ∧ OwnT S base v w b) x.rule.right A ∧ w.cell? ⟨g, k * 2, none⟩ = some (.int .i64 x.rule.left) ∧ w.cell? ⟨g, k * 2 + 1, none⟩ = some (.slice A x.rule.right.length c) := by
  obtain ⟨g, cap, cs, hv, hg1, hg2, hrd, hat⟩ := h.at_ hk
  obtain ⟨u, rfl, hI, hvl⟩ := hrd
  obtain ⟨A, c, rfl, h1, h2, h3⟩ := hvl.slice
  exact ⟨g, cap, A, c, hv, hg1, hg2, hI, h1, h2, h3, hat.c0, hat.c1⟩
/-- A symbol is stored into the right side of one rule. -/
theorem Own.putB (h : Own w S base e v xs) {i j g cap o m c n : Nat} {x : RuleB} {t : TypeId} {cur : Array Value} (hi : xs[i]? = some x) (hap : ∀ k y, xs[k]? = some y → k ≠ i → y.blk ≠ x.blk)
    (hv : v = .slice (some ⟨g, 0, none⟩) n cap) (hc : w.cell? ⟨g, i * 2 + 1, none⟩ = some (.slice (some ⟨x.blk, o, none⟩) m c)) (hB : Blk' w x.blk t cur) (hj : j < x.rule.right.length) (s : Sym) (hs : I64 s.n) :
    Own ((w.setCell ⟨x.blk, o + j * 2, none⟩ (.bool s.term)).setCell ⟨x.blk, o + j * 2 + 1, none⟩ (.int .i64 s.n)) S base e v (xs.set i ⟨⟨x.rule.left, x.rule.right.set j s⟩, x.blk⟩) := by
  have hne : x.rule.right ≠ [] := fun e => by rw [e] at hj; simp at hj
  have hnb := h.ruleNe (List.mem_of_getElem? hi) hne
  have hB' := (hB.set_ (o + j * 2) (.bool s.term)).set_ (o + j * 2 + 1) (.int .i64 s.n)
  have hk : Kept (fun y => y = x.blk) w ((w.setCell ⟨x.blk, o + j * 2, none⟩ (.bool s.term)).setCell ⟨x.blk, o + j * 2 + 1, none⟩ (.int .i64 s.n)) := ((Kept.refl (fun y => y = x.blk) w).setCell (p := ⟨x.blk, o + j * 2, none⟩) (.inl rfl) _).setCell (p := ⟨x.blk, o + j * 2 + 1, none⟩) (.inl rfl) _
  obtain ⟨g2, cap2, cs2, hv2, _, _, _, _⟩ := h.at_ hi
  have h0 := h
  obtain ⟨css, h1, h2, h3⟩ := h
  generalize hw' : (w.setCell ⟨x.blk, o + j * 2, none⟩ (.bool s.term)).setCell ⟨x.blk, o + j * 2 + 1, none⟩ (.int .i64 s.n) = w' at *
  have hil : i < css.length := by have := (List.getElem?_eq_some_iff.1 hi).1; omega
  have hci : css[i]? = some css[i] := List.getElem?_eq_getElem hil
  have hcl : ∀ cs ∈ css, cs.length = 2 := by
    intro cs hcs
    obtain ⟨i, hi, rfl⟩ := List.getElem_of_mem hcs
    exact Dat.len (h3 i _ _ (List.getElem?_eq_getElem (by omega : i < xs.length)) (List.getElem?_eq_getElem hi))
  obtain ⟨u, hcs, hI, hvl⟩ := h3 i x _ hi hci
  obtain ⟨A, c', rfl, l1, l2, hE⟩ := hvl.slice
  have hcell : A = some ⟨x.blk, o, none⟩ := by
    subst hv
    have hf := flat_get css hcl i 1 _ _ hci (by rw [hcs]; rfl)
    rcases h1.2 with ⟨q, _⟩ | ⟨g3, cap3, cur3, q, _, q2, _, _, _, q3⟩
    · cases q
    · injection q with q _ _
      injection q with q
      injection q with q _ _
      subst q
      have h6 : cur3[i * 2 + 1]? = some (.slice A x.rule.right.length c') := by
        rw [← q3, List.getElem?_take] at hf
        split at hf
        · rw [← Array.getElem?_toList]; exact hf
        · cases hf
      have h7 : w.cell? ⟨g, i * 2 + 1, none⟩ = cur3[i * 2 + 1]? := cell_of_row w g (i * 2 + 1) cur3 e (0, 0) q2
      rw [h7, h6] at hc
      injection hc with hc
      injection hc with hc _ _
  subst hcell
  obtain ⟨b1, o1, hA, ⟨_, hT⟩, hx⟩ := hE hne
  injection hA with hA
  injection hA with e1 e2 _
  subst e1; subst e2
  have hTT : ∀ b, OwnT S base v w b → OwnT S base v w' b := fun b hb => ⟨hb.1, hb.2.1, Nat.lt_of_lt_of_le hb.2.2 hk.size⟩
  refine ⟨css, ?_, by rw [List.length_set]; exact h2, fun k y cs hk1 hc1 => ?_⟩
  · rw [List.length_set]
    refine ⟨h1.1, ?_⟩
    rcases h1.2 with q | ⟨g3, cap3, cur3, q1, q2, q3, q4⟩
    · exact .inl q
    · exact .inr ⟨g3, cap3, cur3, q1, q2, (hk.block g3 (Array.getElem?_eq_some_iff.1 q3).1 (fun e => hnb (by rw [q1, ← e]; rfl))).trans q3, q4⟩
  · rw [List.getElem?_set] at hk1
    split at hk1
    · rename_i ek
      subst ek
      split at hk1
      · injection hk1 with hk1
        subst hk1
        rw [hci] at hc1
        injection hc1 with hc1
        subst hc1
        refine ⟨_, hcs, hI, Vl.of_slice (by dsimp only; rw [List.length_set]) (by dsimp only; rw [List.length_set]; exact l1) l2 (fun _ => ⟨x.blk, o, rfl, ⟨rfl, hTT _ hT⟩, fun m z hz => ?_⟩)⟩
        dsimp only at hz
        rw [List.getElem?_set] at hz
        split at hz
        · rename_i em
          subst em
          injection hz with hz
          subst hz
          obtain ⟨ds, ⟨rfl, hd⟩, hat⟩ := hx j _ (List.getElem?_eq_getElem hj)
          have c0 : w.cell? ⟨x.blk, o + j * 2, none⟩ = _ := hat.c0
          have c1 : w.cell? ⟨x.blk, o + j * 2 + 1, none⟩ = _ := hat.c1
          rw [hB.cell] at c0 c1
          have d0 := (Array.getElem?_eq_some_iff.1 c0).1
          have d1 := (Array.getElem?_eq_some_iff.1 c1).1
          refine ⟨_, ⟨rfl, hs⟩, fun q u hu => ?_⟩
          rw [hB'.cell]
          show _[o + j * 2 + q]? = _
          match q, hu with
          | 0, hu => simp at hu; subst hu; rw [Array.getElem?_setIfInBounds_ne (by omega), Nat.add_zero, Array.getElem?_setIfInBounds_self_of_lt d0]
          | 1, hu => simp at hu; subst hu; rw [Array.getElem?_setIfInBounds_self_of_lt (by simpa using d1)]
        · rename_i em
          obtain ⟨ds, ⟨rfl, hd⟩, hat⟩ := hx m _ hz
          refine ⟨_, ⟨rfl, hd⟩, fun q u hu => ?_⟩
          have h8 := hat q u hu
          rw [hB.cell] at h8
          have hq : q < 2 := (List.getElem?_eq_some_iff.1 hu).1
          rw [hB'.cell]
          change cur[o + m * 2 + q]? = _ at h8
          show _[o + m * 2 + q]? = _
          rw [Array.getElem?_setIfInBounds_ne (by omega), Array.getElem?_setIfInBounds_ne (by omega)]
          exact h8
      · cases hk1
    · rename_i ek
      obtain ⟨u, h4, h5, h6⟩ := h3 k y cs hk1 hc1
      have hyb := hap k y hk1 (fun e => ek e.symm)
      exact ⟨u, h4, h5, h6.keep (fun p hp hlt => hk.cell hlt (fun e => hyb (hp.1.symm.trans e))) (fun b hb => ⟨hb.1, hTT b hb.2⟩)⟩
theorem Frs.put {lo : Nat} (h : Frs w lo xs) {i : Nat} {x y : RuleB} (hi : xs[i]? = some x) (hy : y.blk = x.blk) (k : Kept (fun b => b = x.blk) w w') (hB : ∃ t cur, Blk' w' x.blk t cur) : Frs w' lo (xs.set i y) := by
  have hb : ∀ (k : Nat) z, (xs.set i y)[k]? = some z → ∃ z', xs[k]? = some z' ∧ z'.blk = z.blk ∧ (k ≠ i → z' = z) := by
    intro k z hz
    rw [List.getElem?_set] at hz
    split at hz
    · rename_i e
      subst e
      split at hz
      · injection hz with hz
        subst hz
        exact ⟨x, hi, hy.symm, fun e => absurd rfl e⟩
      · cases hz
    · exact ⟨z, hz, rfl, fun _ => rfl⟩
  refine ⟨fun a c p q h1 h2 hne => ?_, fun z hz => ?_⟩
  · obtain ⟨p', h3, h4, _⟩ := hb a p h1
    obtain ⟨q', h5, h6, _⟩ := hb c q h2
    rw [← h4, ← h6]
    exact h.apart a c p' q' h3 h5 hne
  · obtain ⟨n, hn, rfl⟩ := List.getElem_of_mem hz
    obtain ⟨z', h3, h4, h5⟩ := hb n _ (List.getElem?_eq_getElem hn)
    obtain ⟨h6, h7, h8⟩ := h.cells z' (List.mem_of_getElem? h3)
    rw [← h4]
    refine ⟨h6, Nat.lt_of_lt_of_le h7 k.size, fun hne => ?_⟩
    by_cases e : n = i
    · subst e
      rw [hi] at h3
      injection h3 with h3
      rw [← h3]
      exact hB
    · have e2 := h5 e
      have h9 := h.apart n i z' x h3 hi e
      rw [← e2] at hne
      obtain ⟨t, cur, hc⟩ := h8 hne
      exact ⟨t, cur, hc.kept k h9⟩
theorem Frs.lo {lo lo' : Nat} (h : Frs w lo xs) (hl : lo' ≤ lo) : Frs w lo' xs := ⟨h.apart, fun x hx => ⟨Nat.le_trans hl (h.cells x hx).1, (h.cells x hx).2⟩⟩
end
section
variable {w : World} {S : Nat → Prop} {base : Nat} {e : TypeId} {v : Value}
theorem Own.blk {α : Type} [Dat α] {xs : List α} (h : Own w S base e v xs) {k : Nat} (hk : v.ownBlock = some k) : ∃ t cur, Blk' w k t cur := by
  obtain ⟨css, h1, _⟩ := h
  rcases h1.2 with ⟨rfl, _⟩ | ⟨g, cap, cur, rfl, _, hh, _⟩
  · cases hk
  · injection hk with hk
    subst hk
    exact ⟨_, _, hh⟩
theorem Own.symEls {xs : List Sym} {A : Option Addr} {n c : Nat} (h : Own w S base e (.slice A n c) xs) : Els w (fun b => (Value.slice A n c).ownBlock = some b) xs A := by
  intro hne
  obtain ⟨b, o, rfl, _, hx⟩ := h.vl.els.2.2.2 hne
  exact ⟨b, o, rfl, rfl, fun i x hi => by
    obtain ⟨cs, h1, h2⟩ := hx i x hi
    exact ⟨cs, h1, h2⟩⟩
/-- The block of a symbols' row, or a number of its own where there is none. -/
theorem Own.kb {xs : List Sym} {A : Option Addr} {c lo hi : Nat} (h : Own w S base e (.slice A xs.length c) xs) (h1 : lo ≤ base) (h2 : lo < hi) (h3 : w.heap.size ≤ hi) : ∃ kb, lo ≤ kb ∧ kb < hi ∧ (xs ≠ [] → (Value.slice A xs.length c).ownBlock = some kb) ∧ Els w (fun b => b = kb) xs A := by
  by_cases hne : xs = []
  · exact ⟨lo, Nat.le_refl _, h2, fun h => absurd hne h, fun h => absurd hne h⟩
  · obtain ⟨b, o, rfl, hb, _⟩ := h.vl.els.2.2.2 hne
    have h4 := h.block b rfl
    exact ⟨b, Nat.le_trans h1 h4.1, Nat.lt_of_lt_of_le h4.2 h3, fun _ => rfl, h.symEls.keep (fun _ _ _ => rfl) (fun k hk => by injection hk with hk; exact hk.symm)⟩
end
end Go.Proofs.YtaidadjekfcacaaDoor

/- Lists of rules on the way of closed.Put. No program is named here. -/
namespace Go.Proofs.YtaidadjekfcacaaDoor
set_option linter.unusedVariables false

def putU (R : List Rule) (x m : Int) (t : Nat) : List Rule := (R.take t).map (putR x m) ++ R.drop t
def midS (x m : Int) (s : Nat) (l : List Sym) : List Sym := (l.take s).map (putS x m) ++ l.drop s
def putV (R : List Rule) (x m : Int) (t s : Nat) (r : Rule) : List Rule := (R.take t).map (putR x m) ++ ⟨r.left, midS x m s r.right⟩ :: R.drop (t + 1)
section
variable {R : List Rule} {x m : Int} {t s : Nat} {r : Rule} {z : Sym}
theorem drop_consG {α : Type} {l : List α} {k : Nat} {a : α} (h : l[k]? = some a) : l.drop k = a :: l.drop (k + 1) := by
  obtain ⟨h1, rfl⟩ := List.getElem?_eq_some_iff.1 h
  exact List.drop_eq_getElem_cons h1
theorem take_snocG {α : Type} {l : List α} {k : Nat} {a : α} (h : l[k]? = some a) : l.take (k + 1) = l.take k ++ [a] := by
  rw [List.take_add_one, h]; rfl
theorem putU_zero : putU R x m 0 = R := by simp [putU]
theorem midS_zero (l : List Sym) : midS x m 0 l = l := by simp [midS]
theorem midS_len (l : List Sym) : (midS x m s l).length = l.length := by unfold midS; rw [List.length_append, List.length_map, List.length_take, List.length_drop]; omega
theorem midS_all (l : List Sym) : midS x m l.length l = l.map (putS x m) := by unfold midS; rw [List.take_length, List.drop_length, List.append_nil]
theorem putV_zero (hr : R[t]? = some r) : putV R x m t 0 r = putU R x m t := by
  unfold putV putU
  rw [midS_zero, drop_consG hr]
theorem putV_last (hr : R[t]? = some r) : putV R x m t r.right.length r = putU R x m (t + 1) := by
  unfold putV putU
  rw [midS_all, take_snocG hr, List.map_append]
  simp [putR]
theorem take_len_of {α : Type} {l : List α} {k : Nat} {a : α} (h : l[k]? = some a) : (l.take k).length = k := by
  have := (List.getElem?_eq_some_iff.1 h).1
  rw [List.length_take]; omega
theorem putU_at (hr : R[t]? = some r) : (putU R x m t)[t]? = some r := by
  unfold putU
  rw [drop_consG hr, List.getElem?_append_right (by rw [List.length_map, take_len_of hr]; exact Nat.le_refl _), List.length_map, take_len_of hr]
  simp
theorem putV_at (hr : R[t]? = some r) : (putV R x m t s r)[t]? = some ⟨r.left, midS x m s r.right⟩ := by
  unfold putV
  rw [List.getElem?_append_right (by rw [List.length_map, take_len_of hr]; exact Nat.le_refl _), List.length_map, take_len_of hr]
  simp
theorem midS_at {l : List Sym} (hz : l[s]? = some z) : (midS x m s l)[s]? = some z := by
  unfold midS
  rw [drop_consG hz, List.getElem?_append_right (by rw [List.length_map, take_len_of hz]; exact Nat.le_refl _), List.length_map, take_len_of hz]
  simp
theorem midS_next {l : List Sym} (hz : l[s]? = some z) : midS x m (s + 1) l = (midS x m s l).set s (putS x m z) := by
  unfold midS
  rw [drop_consG hz, take_snocG hz, List.map_append, List.set_append_right _ _ (by rw [List.length_map, take_len_of hz]; exact Nat.le_refl _), List.length_map, take_len_of hz]
  simp
theorem set_same {α : Type} {l : List α} {k : Nat} {a : α} (h : l[k]? = some a) : l.set k a = l := by
  obtain ⟨h1, rfl⟩ := List.getElem?_eq_some_iff.1 h
  exact List.set_getElem_self h1
theorem putV_skip (hz : r.right[s]? = some z) (h : putS x m z = z) : putV R x m t (s + 1) r = putV R x m t s r := by
  unfold putV
  rw [midS_next hz, h, set_same (midS_at hz)]
theorem putV_set (hr : R[t]? = some r) (hz : r.right[s]? = some z) : (putV R x m t s r).set t ⟨r.left, (midS x m s r.right).set s (putS x m z)⟩ = putV R x m t (s + 1) r := by
  unfold putV
  rw [List.set_append_right _ _ (by rw [List.length_map, take_len_of hr]; exact Nat.le_refl _), List.length_map, take_len_of hr, midS_next hz]
  simp
theorem map_at {ys : List RuleB} {q : Rule} {l : List Rule} (h : ys.map RuleB.rule = l) (hq : l[t]? = some q) : ∃ kb, ys[t]? = some ⟨q, kb⟩ := by
  subst h
  rw [List.getElem?_map] at hq
  cases hy : ys[t]? with
  | none => rw [hy] at hq; cases hq
  | some y =>
    rw [hy] at hq
    injection hq with hq
    subst hq
    exact ⟨y.blk, rfl⟩
theorem map_set_rule {ys : List RuleB} {q : RuleB} : (ys.set t q).map RuleB.rule = (ys.map RuleB.rule).set t q.rule := List.map_set
theorem set_blk {ys : List RuleB} {y q : RuleB} {hi : Nat} (h : ∀ y ∈ ys, y.blk < hi) (hy : ys[t]? = some y) (he : q.blk = y.blk) : ∀ z ∈ ys.set t q, z.blk < hi := by
  intro z hz
  rcases List.mem_or_eq_of_mem_set hz with hz | rfl
  · exact h z hz
  · rw [he]; exact h y (List.mem_of_getElem? hy)
end
end Go.Proofs.YtaidadjekfcacaaDoor

/- Steps of a region that draws its order, by hand: the operation is read off the written-out list. No program is named here. -/
namespace Go.Proofs.YtaidadjekfcacaaDoor
open Go.RowKit
set_option linter.unusedVariables false

theorem drop_get {l : List Oper} {i : Nat} {o : Oper} {rest : List Oper} (h : l.drop i = o :: rest) : l.toArray[i]? = some o := by
  have h1 : (l.drop i)[0]? = some o := by rw [h]; rfl
  simpa using h1
section
variable {P : Program} {l : List Oper} {Q : Exit → Act → World → Prop} {md : Region.Mode} {S : World → Prop}
/-- An operation that runs, and only reads. -/
theorem take_run {i : Nat} {oi : Oper} {rest : List Oper} {v : Value} {fuel : Nat} {listed : Array Bool} {a : Act} {w : World} (hi : l.drop i = oi :: rest)
    (hs : Region.noSelect l.toArray = true) (hf : Region.free md l.toArray listed i = true) (hr : (Region.ready md l.toArray listed).contains i = true)
    (hQ : ∀ c a w, Q (.panic c) (a.put oi.dst v) w → Q (.panic c) a w) (hw : Region.wanted oi (yielded l.toArray a.tmps) = true) (hy : ∀ w, S w → (execOp a.eval oi).run P w = .ok (.value v) w) (hS : S w)
    (h : wpAnyH P md l.toArray Q S fuel (listed.setIfInBounds i true) (a.put oi.dst v) w) : wpAnyH P md l.toArray Q S (fuel + 1) listed a w :=
  wpAnyH_take (drop_get hi) hs hf hr hQ (.inl ⟨hw, hy⟩) hS h
/-- An operation whose guard bars it. -/
theorem take_bar {i : Nat} {oi : Oper} {rest : List Oper} {fuel : Nat} {listed : Array Bool} {a : Act} {w : World} (hi : l.drop i = oi :: rest)
    (hs : Region.noSelect l.toArray = true) (hf : Region.free md l.toArray listed i = true) (hr : (Region.ready md l.toArray listed).contains i = true)
    (hQ : ∀ c a w, Q (.panic c) (a.put oi.dst undef) w → Q (.panic c) a w) (hw : Region.wanted oi (yielded l.toArray a.tmps) = false) (hS : S w)
    (h : wpAnyH P md l.toArray Q S fuel (listed.setIfInBounds i true) (a.put oi.dst undef) w) : wpAnyH P md l.toArray Q S (fuel + 1) listed a w :=
  wpAnyH_take (drop_get hi) hs hf hr hQ (.inr ⟨hw, rfl⟩) hS h
/-- A call that alone may come up. -/
theorem take_call {i : Nat} {o : Oper} {rest : List Oper} {fuel : Nat} {listed : Array Bool} {a : Act} {w : World} (hi : l.drop i = o :: rest) (hr : Region.ready md l.toArray listed = [i]) (hw : Region.wanted o (yielded l.toArray a.tmps) = true)
    (h : ∀ K' : Act → World → Prop, Shut (∀ a w, S w → (S w → wpAnyH P md l.toArray Q S fuel (listed.setIfInBounds i true) a w) → K' a w) → Oper.wp P o a w K' Q) : wpAnyH P md l.toArray Q S (fuel + 1) listed a w :=
  wpAnyH_ready hr (by simp) (AllReadyH.cons (drop_get hi) (fun K hK => by rw [if_pos hw]; exact h K hK) AllReadyH.nil)
/-- Two operations that may come up. -/
theorem take_two {i j : Nat} {o o' : Oper} {rest rest' : List Oper} {fuel : Nat} {listed : Array Bool} {a : Act} {w : World} (hi : l.drop i = o :: rest) (hj : l.drop j = o' :: rest') (hr : Region.ready md l.toArray listed = [i, j]) (hwi : Region.wanted o (yielded l.toArray a.tmps) = true) (hwj : Region.wanted o' (yielded l.toArray a.tmps) = true)
    (h1 : ∀ K' : Act → World → Prop, Shut (∀ a w, S w → (S w → wpAnyH P md l.toArray Q S fuel (listed.setIfInBounds i true) a w) → K' a w) → Oper.wp P o a w K' Q)
    (h2 : ∀ K' : Act → World → Prop, Shut (∀ a w, S w → (S w → wpAnyH P md l.toArray Q S fuel (listed.setIfInBounds j true) a w) → K' a w) → Oper.wp P o' a w K' Q) : wpAnyH P md l.toArray Q S (fuel + 1) listed a w :=
  wpAnyH_ready hr (by simp) (AllReadyH.cons (drop_get hi) (fun K hK => by rw [if_pos hwi]; exact h1 K hK) (AllReadyH.cons (drop_get hj) (fun K hK => by rw [if_pos hwj]; exact h2 K hK) AllReadyH.nil))
end
end Go.Proofs.YtaidadjekfcacaaDoor

/- Lists alike up to a place. -/
namespace Go.Proofs.YtaidadjekfcacaaDoor
open Go.RowKit
set_option linter.unusedVariables false

theorem take_ne {α : Type} {xs ys : List α} {k : Nat} {x y : α} (hx : xs[k]? = some x) (hy : ys[k]? = some y) (h : x ≠ y) : xs ≠ ys := by
  rintro rfl; rw [hx] at hy; exact h (by injection hy)
theorem take_eq {α : Type} {xs ys : List α} {k : Nat} {x y : α} (hx : xs[k]? = some x) (hy : ys[k]? = some y) (h : x = y) (ht : xs.take k = ys.take k) : xs.take (k + 1) = ys.take (k + 1) := by
  rw [take_snoc hx, take_snoc hy, ht, h]
theorem take_all {α : Type} {xs ys : List α} {k : Nat} (hl : xs.length = ys.length) (hk : xs.length ≤ k) (ht : xs.take k = ys.take k) : xs = ys := by
  rwa [List.take_of_length_le hk, List.take_of_length_le (by omega)] at ht
end Go.Proofs.YtaidadjekfcacaaDoor

/- Lists of rules on the way of closed.Reverse; a right side that is turned in place. No program is named here. -/
namespace Go.Proofs.YtaidadjekfcacaaDoor
open Go.RowKit
set_option linter.unusedVariables false

def revR (r : Rule) : Rule := ⟨r.left, r.right.reverse⟩
def revG (g : Gram) : Gram := ⟨g.terms, g.nons, g.start, g.rules.map revR⟩
def revU (R : List Rule) (t : Nat) : List Rule := (R.take t).map revR ++ R.drop t
section
variable {R : List Rule} {t : Nat} {r : Rule}
theorem revU_zero : revU R 0 = R := by simp [revU]
theorem revU_all : revU R R.length = R.map revR := by simp [revU]
theorem revU_len : (revU R t).length = R.length := by unfold revU; rw [List.length_append, List.length_map, List.length_take, List.length_drop]; omega
theorem revU_at (hr : R[t]? = some r) : (revU R t)[t]? = some r := by
  unfold revU
  rw [drop_consG hr, List.getElem?_append_right (by rw [List.length_map, take_len_of hr]; exact Nat.le_refl _), List.length_map, take_len_of hr]
  simp
theorem revU_set (hr : R[t]? = some r) : (revU R t).set t (revR r) = revU R (t + 1) := by
  unfold revU
  rw [drop_consG hr, List.set_append_right _ _ (by rw [List.length_map, take_len_of hr]; exact Nat.le_refl _), List.length_map, take_len_of hr, take_snocG hr]
  simp
theorem revU_skip (hr : R[t]? = some r) (h : revR r = r) : revU R (t + 1) = revU R t := by
  rw [← revU_set hr, h, set_same (revU_at hr)]
end
/-- The right side of one rule is turned in its own block. -/
theorem Own.turnB {w w' : World} {S : Nat → Prop} {base : Nat} {e : TypeId} {v : Value} {xs : List RuleB} (h : Own w S base e v xs) {i g cap n m c : Nat} {x : RuleB} {A : Option Addr} {l' : List Sym} (hi : xs[i]? = some x) (hap : ∀ k y, xs[k]? = some y → k ≠ i → y.blk ≠ x.blk)
    (hv : v = .slice (some ⟨g, 0, none⟩) n cap) (hc : w.cell? ⟨g, i * 2 + 1, none⟩ = some (.slice A m c)) (hne : x.rule.right ≠ []) (hl : l'.length = x.rule.right.length) (hk : Kept (fun b => b = x.blk) w w') (hE : Els w' (fun b => b = x.blk) l' A) :
    Own w' S base e v (xs.set i ⟨⟨x.rule.left, l'⟩, x.blk⟩) := by
  have hnb := h.ruleNe (List.mem_of_getElem? hi) hne
  obtain ⟨css, h1, h2, h3⟩ := h
  have hil : i < css.length := by have := (List.getElem?_eq_some_iff.1 hi).1; omega
  have hci : css[i]? = some css[i] := List.getElem?_eq_getElem hil
  have hcl : ∀ cs ∈ css, cs.length = 2 := by
    intro cs hcs
    obtain ⟨i, hi, rfl⟩ := List.getElem_of_mem hcs
    exact Dat.len (h3 i _ _ (List.getElem?_eq_getElem (by omega : i < xs.length)) (List.getElem?_eq_getElem hi))
  obtain ⟨u, hcs, hI, hvl⟩ := h3 i x _ hi hci
  obtain ⟨A', c', rfl, l1, l2, hE0⟩ := hvl.slice
  have hcell : A' = A := by
    subst hv
    have hf := flat_get css hcl i 1 _ _ hci (by rw [hcs]; rfl)
    rcases h1.2 with ⟨q, _⟩ | ⟨g3, cap3, cur3, q, _, q2, _, _, _, q3⟩
    · cases q
    · injection q with q _ _
      injection q with q
      injection q with q _ _
      subst q
      have h6 : cur3[i * 2 + 1]? = some (.slice A' x.rule.right.length c') := by
        rw [← q3, List.getElem?_take] at hf
        split at hf
        · rw [← Array.getElem?_toList]; exact hf
        · cases hf
      have h7 : w.cell? ⟨g, i * 2 + 1, none⟩ = cur3[i * 2 + 1]? := cell_of_row w g (i * 2 + 1) cur3 e (0, 0) q2
      rw [h7, h6] at hc
      injection hc with hc
      injection hc with hc _ _
  subst hcell
  obtain ⟨b1, o1, hA, ⟨hb1, hT⟩, hx⟩ := hE0 hne
  have hT' : OwnT S base v w x.blk := by rw [← hb1]; exact hT
  have hTT : ∀ b, OwnT S base v w b → OwnT S base v w' b := fun b hb => ⟨hb.1, hb.2.1, Nat.lt_of_lt_of_le hb.2.2 hk.size⟩
  refine ⟨css, ?_, by rw [List.length_set]; exact h2, fun k y cs hk1 hc1 => ?_⟩
  · rw [List.length_set]
    refine ⟨h1.1, ?_⟩
    rcases h1.2 with q | ⟨g3, cap3, cur3, q1, q2, q3, q4⟩
    · exact .inl q
    · exact .inr ⟨g3, cap3, cur3, q1, q2, (hk.block g3 (Array.getElem?_eq_some_iff.1 q3).1 (fun e => hnb (by rw [q1, ← e]; rfl))).trans q3, q4⟩
  · rw [List.getElem?_set] at hk1
    split at hk1
    · rename_i ek
      subst ek
      split at hk1
      · injection hk1 with hk1
        subst hk1
        rw [hci] at hc1
        injection hc1 with hc1
        subst hc1
        exact ⟨_, hcs, hI, Vl.of_slice (by dsimp only; rw [hl]) (by dsimp only; rw [hl]; exact l1) l2 (hE.keep (fun _ _ _ => rfl) (fun b hb => ⟨hb, by have h9 : b = x.blk := hb; rw [h9]; exact hTT _ hT'⟩))⟩
      · cases hk1
    · rename_i ek
      obtain ⟨u, h4, h5, h6⟩ := h3 k y cs hk1 hc1
      have hyb := hap k y hk1 (fun e => ek e.symm)
      exact ⟨u, h4, h5, h6.keep (fun p hp hlt => hk.cell hlt (fun e => hyb (hp.1.symm.trans e))) (fun b hb => ⟨hb.1, hTT b hb.2⟩)⟩
end Go.Proofs.YtaidadjekfcacaaDoor

/- How many nodes a tree has. No program is named here. -/
namespace Go.Proofs.YtaidadjekfcacaaDoor
set_option linter.unusedVariables false

mutual
def nodesT : Tree → Nat
  | ⟨_, _, ks⟩ => 1 + nodesL ks
def nodesL : List Tree → Nat
  | [] => 0
  | k :: ks => nodesT k + nodesL ks
end
theorem nodesL_append : ∀ (a b : List Tree), nodesL (a ++ b) = nodesL a + nodesL b
  | [], b => by simp [nodesL]
  | x :: a, b => by simp only [List.cons_append, nodesL, nodesL_append a b]; omega
theorem yields_append : ∀ (a b : List Tree), yields (a ++ b) = yields a ++ yields b
  | [], b => by simp [yields]
  | x :: a, b => by simp only [List.cons_append, yields, yields_append a b, List.append_assoc]
theorem len_nodes : ∀ (a : List Tree), a.length ≤ nodesL a
  | [] => by simp [nodesL]
  | ⟨r, t, ks⟩ :: a => by have := len_nodes a; simp only [List.length_cons, nodesL, nodesT]; omega
mutual
theorem yield_nodes : ∀ (t : Tree), (yieldT t).length ≤ nodesT t
  | ⟨r, t, ks⟩ => by
    unfold yieldT nodesT
    split
    · simp
    · have := yields_nodes ks; omega
theorem yields_nodes : ∀ (ks : List Tree), (yields ks).length ≤ nodesL ks
  | [] => by simp [yields]
  | k :: ks => by
    have := yield_nodes k
    have := yields_nodes ks
    simp only [yields, List.length_append, nodesL]; omega
end
end Go.Proofs.YtaidadjekfcacaaDoor

/- Mirrored trees: plain lists. No program is named here. -/
namespace Go.Proofs.YtaidadjekfcacaaDoor
set_option linter.unusedVariables false

mutual
def mirT : Tree → Tree
  | ⟨r, t, ks⟩ => ⟨r, t, (mirL ks).reverse⟩
def mirL : List Tree → List Tree
  | [] => []
  | k :: ks => mirT k :: mirL ks
end
theorem mirL_map : ∀ ks : List Tree, mirL ks = ks.map mirT
  | [] => rfl
  | k :: ks => by simp [mirL, mirL_map ks]
theorem mirL_len (ks : List Tree) : (mirL ks).length = ks.length := by rw [mirL_map, List.length_map]
theorem mirT_eq (r t : Int) (ks : List Tree) : mirT ⟨r, t, ks⟩ = ⟨r, t, (ks.map mirT).reverse⟩ := by rw [mirT, mirL_map]
def zeroT : Tree := ⟨0, 0, []⟩
/-- The kids on the way: m of them are in, from the end on. -/
def mirK (ks : List Tree) (m : Nat) : List Tree := List.replicate (ks.length - m) zeroT ++ ((ks.take m).map mirT).reverse
theorem mirK_zero (ks : List Tree) : mirK ks 0 = List.replicate ks.length zeroT := by simp [mirK]
theorem mirK_all (ks : List Tree) : mirK ks ks.length = (ks.map mirT).reverse := by simp [mirK]
theorem mirK_len {ks : List Tree} {m : Nat} (h : m ≤ ks.length) : (mirK ks m).length = ks.length := by
  unfold mirK
  rw [List.length_append, List.length_replicate, List.length_reverse, List.length_map, List.length_take]
  omega
theorem mirK_set {ks : List Tree} {m : Nat} {x : Tree} (h : ks[m]? = some x) : (mirK ks m).set (ks.length - 1 - m) (mirT x) = mirK ks (m + 1) := by
  have hl := (List.getElem?_eq_some_iff.1 h).1
  unfold mirK
  rw [List.take_add_one, h]
  simp only [Option.toList_some, List.map_append, List.map_cons, List.map_nil, List.reverse_append, List.reverse_cons, List.reverse_nil, List.nil_append, List.singleton_append]
  obtain ⟨d, hd⟩ : ∃ d, ks.length - m = d + 1 := ⟨ks.length - m - 1, by omega⟩
  rw [hd, show ks.length - 1 - m = d by omega, show ks.length - (m + 1) = d by omega, List.replicate_succ', List.append_assoc, List.set_append_right _ _ (by simp), List.length_replicate, Nat.sub_self]
  rfl
theorem nodes_mem {k : Tree} : ∀ {ks : List Tree}, k ∈ ks → nodesT k ≤ nodesL ks
  | x :: ks, h => by
    rcases List.mem_cons.1 h with e | h
    · subst e; simp only [nodesL]; omega
    · have := nodes_mem h; simp only [nodesL]; omega
mutual
theorem Tree.indM {P : Tree → Prop} (h : ∀ r t ks, (∀ k ∈ ks, P k) → P ⟨r, t, ks⟩) : ∀ t, P t
  | ⟨r, t, ks⟩ => h r t ks (Tree.indN h ks)
theorem Tree.indN {P : Tree → Prop} (h : ∀ r t ks, (∀ k ∈ ks, P k) → P ⟨r, t, ks⟩) : ∀ ks : List Tree, ∀ k ∈ ks, P k
  | [], k, hk => by simp at hk
  | x :: xs, k, hk => by
    rcases List.mem_cons.1 hk with e | e
    · exact e ▸ Tree.indM h x
    · exact Tree.indN h xs k e
end
end Go.Proofs.YtaidadjekfcacaaDoor

/- A row of trees at the head of a block of its own, made and then filled. -/
namespace Go.Proofs.YtaidadjekfcacaaDoor
open Go.RowKit
set_option linter.unusedVariables false

def RowT (w : World) (G : Nat) (xs : List Tree) : Prop :=
  ∃ cur, Blk' w G 50 cur ∧ ∀ (i : Nat) (x : Tree), xs[i]? = some x → ∃ (A : Option Addr) (c : Nat), cur[i * 3]? = some (.int .i64 x.rule) ∧ cur[i * 3 + 1]? = some (.int .i64 x.term) ∧ cur[i * 3 + 2]? = some (.slice A x.kids.length c) ∧
    I64 x.rule ∧ I64 x.term ∧ x.kids.length ≤ c ∧ c ≤ 9223372036854775807 ∧ Els w (fun b => G < b ∧ b < w.heap.size) x.kids A
section
variable {w w' : World} {G : Nat} {xs : List Tree}
theorem RowT.lt (h : RowT w G xs) : G < w.heap.size := by
  obtain ⟨cur, hb, _⟩ := h
  exact hb.lt
theorem RowT.frozen (h : RowT w G xs) (i : Nat) : w.frozen? ⟨G, i, none⟩ = false := by
  obtain ⟨cur, hb, _⟩ := h
  exact hb.frozen i
theorem RowT.cells (h : RowT w G xs) {i : Nat} {x : Tree} (hx : xs[i]? = some x) : ∃ (A : Option Addr) (c : Nat), w.cell? ⟨G, i * 3, none⟩ = some (.int .i64 x.rule) ∧ w.cell? ⟨G, i * 3 + 1, none⟩ = some (.int .i64 x.term) ∧ w.cell? ⟨G, i * 3 + 2, none⟩ = some (.slice A x.kids.length c) := by
  obtain ⟨cur, hb, hc⟩ := h
  obtain ⟨A, c, h1, h2, h3, _⟩ := hc i x hx
  exact ⟨A, c, by rw [hb.cell]; exact h1, by rw [hb.cell]; exact h2, by rw [hb.cell]; exact h3⟩
theorem RowT.kept {X : Nat → Prop} (h : RowT w G xs) (k : Kept X w w') (hx : ∀ b, X b → b < G ∨ w.heap.size ≤ b) : RowT w' G xs := by
  obtain ⟨cur, hb, hc⟩ := h
  refine ⟨cur, hb.kept k (fun h => by have h1 := hx _ h; have h2 := hb.lt; omega), fun i x hi => ?_⟩
  obtain ⟨A, c, h1, h2, h3, h4, h5, h6, h7, h8⟩ := hc i x hi
  exact ⟨A, c, h1, h2, h3, h4, h5, h6, h7, (h8.kept k (fun b hb h => by have h1 := hx _ h; omega)).keep (fun _ _ _ => rfl) (fun b hb => ⟨hb.1, Nat.lt_of_lt_of_le hb.2 k.size⟩)⟩
theorem RowT.below (h : RowT w G xs) (k : Below w.heap.size w w') : RowT w' G xs := h.kept (Kept.of_below (fun _ => False) k) (fun _ h => h.elim)
theorem RowT.drew (h : RowT w G xs) : RowT w.drew G xs := h.below (Below.refl _ _).drew
theorem RowT.els (h : RowT w G xs) : Els w (fun b => G ≤ b ∧ b < w.heap.size) xs (some ⟨G, 0, none⟩) := fun _ => ⟨G, 0, rfl, ⟨Nat.le_refl _, h.lt⟩, fun i x hi => by
  obtain ⟨cur, hb, hc⟩ := h
  obtain ⟨A, c, h1, h2, h3, h4, h5, h6, h7, h8⟩ := hc i x hi
  refine ⟨[.int .i64 x.rule, .int .i64 x.term, .slice A x.kids.length c], rd_tree.2 ⟨_, rfl, h4, h5, Vl.of_slice rfl h6 h7 (h8.keep (fun _ _ _ => rfl) (fun b hb => ⟨by omega, hb.2⟩))⟩, fun j u hu => ?_⟩
  show w.cell? ⟨G, 0 + i * 3 + j, none⟩ = some u
  rw [hb.cell, Nat.zero_add]
  match j, hu with
  | 0, hu => simp at hu; subst hu; exact h1
  | 1, hu => simp at hu; subst hu; exact h2
  | 2, hu => simp at hu; subst hu; exact h3⟩
theorem RowT.put (h : RowT w G xs) {j : Nat} (hj : j < xs.length) (x : Tree) (A : Option Addr) (c : Nat) (h1 : I64 x.rule) (h2 : I64 x.term) (h3 : x.kids.length ≤ c) (h4 : c ≤ 9223372036854775807) (h5 : Els w (fun b => G < b ∧ b < w.heap.size) x.kids A) :
    RowT (((w.setCell ⟨G, j * 3, none⟩ (.int .i64 x.rule)).setCell ⟨G, j * 3 + 1, none⟩ (.int .i64 x.term)).setCell ⟨G, j * 3 + 2, none⟩ (.slice A x.kids.length c)) G (xs.set j x) := by
  have hk : Kept (fun b => b = G) w (((w.setCell ⟨G, j * 3, none⟩ (.int .i64 x.rule)).setCell ⟨G, j * 3 + 1, none⟩ (.int .i64 x.term)).setCell ⟨G, j * 3 + 2, none⟩ (.slice A x.kids.length c)) := (((Kept.refl (fun b => b = G) w).setCell (p := ⟨G, j * 3, none⟩) (.inl rfl) _).setCell (p := ⟨G, j * 3 + 1, none⟩) (.inl rfl) _).setCell (p := ⟨G, j * 3 + 2, none⟩) (.inl rfl) _
  have hel : ∀ (ys : List Tree) (B : Option Addr), Els w (fun b => G < b ∧ b < w.heap.size) ys B → Els (((w.setCell ⟨G, j * 3, none⟩ (.int .i64 x.rule)).setCell ⟨G, j * 3 + 1, none⟩ (.int .i64 x.term)).setCell ⟨G, j * 3 + 2, none⟩ (.slice A x.kids.length c)) (fun b => G < b ∧ b < (((w.setCell ⟨G, j * 3, none⟩ (.int .i64 x.rule)).setCell ⟨G, j * 3 + 1, none⟩ (.int .i64 x.term)).setCell ⟨G, j * 3 + 2, none⟩ (.slice A x.kids.length c)).heap.size) ys B := fun ys B he =>
    (he.kept hk (fun b hb (e : b = G) => by omega)).keep (fun _ _ _ => rfl) (fun b hb => ⟨hb.1, Nat.lt_of_lt_of_le hb.2 hk.size⟩)
  obtain ⟨cur, hb, hc⟩ := h
  refine ⟨_, ((hb.set_ (j * 3) (.int .i64 x.rule)).set_ (j * 3 + 1) (.int .i64 x.term)).set_ (j * 3 + 2) (.slice A x.kids.length c), fun i y hi => ?_⟩
  obtain ⟨A0, c0, d0, d1, d2, _⟩ := hc j _ (List.getElem?_eq_getElem hj)
  have e0 := (Array.getElem?_eq_some_iff.1 d0).1
  have e1 := (Array.getElem?_eq_some_iff.1 d1).1
  have e2 := (Array.getElem?_eq_some_iff.1 d2).1
  by_cases e : j = i
  · subst e
    rw [List.getElem?_set_self hj] at hi
    injection hi with hi
    subst hi
    refine ⟨A, c, ?_, ?_, ?_, h1, h2, h3, h4, hel _ _ h5⟩
    · rw [Array.getElem?_setIfInBounds_ne (by omega), Array.getElem?_setIfInBounds_ne (by omega), Array.getElem?_setIfInBounds_self_of_lt e0]
    · rw [Array.getElem?_setIfInBounds_ne (by omega), Array.getElem?_setIfInBounds_self_of_lt (by simpa using e1)]
    · rw [Array.getElem?_setIfInBounds_self_of_lt (by simpa using e2)]
  · rw [List.getElem?_set_ne e] at hi
    obtain ⟨A1, c1, g1, g2, g3, g4, g5, g6, g7, g8⟩ := hc i y hi
    refine ⟨A1, c1, ?_, ?_, ?_, g4, g5, g6, g7, hel _ _ g8⟩
    · rw [Array.getElem?_setIfInBounds_ne (by omega), Array.getElem?_setIfInBounds_ne (by omega), Array.getElem?_setIfInBounds_ne (by omega)]; exact g1
    · rw [Array.getElem?_setIfInBounds_ne (by omega), Array.getElem?_setIfInBounds_ne (by omega), Array.getElem?_setIfInBounds_ne (by omega)]; exact g2
    · rw [Array.getElem?_setIfInBounds_ne (by omega), Array.getElem?_setIfInBounds_ne (by omega), Array.getElem?_setIfInBounds_ne (by omega)]; exact g3
end
def tz3 : Array Value := #[.int .i64 0, .int .i64 0, .slice none 0 0]
theorem tz_get {n i r : Nat} (hi : i < n) (hr : r < 3) : (madeCells tz3 (n * 3))[i * 3 + r]? = some tz3[r]! := by
  have h : i * 3 + r < n * 3 := by omega
  have e : (i * 3 + r) % 3 = r := by omega
  simp [madeCells, h, tz3, e]
theorem RowT.made {w : World} {G n : Nat} (hb : Blk' w G 50 (madeCells tz3 (n * 3))) : RowT w G (List.replicate n zeroT) := by
  refine ⟨_, hb, fun i x hx => ?_⟩
  rw [List.getElem?_replicate] at hx
  split at hx
  · rename_i h
    injection hx with hx
    subst hx
    exact ⟨none, 0, tz_get (r := 0) h (by omega), tz_get (r := 1) h (by omega), tz_get (r := 2) h (by omega), by show I64 0; unfold I64; omega, by show I64 0; unfold I64; omega, Nat.le_refl _, by omega, fun h => absurd rfl h⟩
  · cases hx
theorem mkTrees (n : Nat) (hn : n ≤ 2000000) (W : World) : (Instr.makeSlice 48 (.int .i64 (n : Int)) (.int .i64 (n : Int))).run Tryd.prog W = .ok (.slice (some ⟨W.heap.size, 0, none⟩) n n) (W.alloc (.cells (madeCells tz3 (n * 3)) 50)) := by
  obtain ⟨i0, hi, hz0, hz1, hz2⟩ := info_parts infoTree
  have h := run_makeSlice (P := Tryd.prog) W 48 50 i0 (.agg #[.int .i64 0, .int .i64 0, .slice none 0 0]) Tryd.underlying48 hi hz0 .i64 .i64 (n : Int) (n : Int) (by omega) (Int.le_refl _) (by rw [hz1]; simp; omega) (by rw [hz2]; omega) (by omega)
  rw [h, hz1]
  simp only [Int.toNat_natCast]
  rfl
end Go.Proofs.YtaidadjekfcacaaDoor

/- Contract: slices.Backward at trees: the closure hands each element over, from the end on. Turned from the kit's text on slices.All. -/
namespace Go.Proofs.YtaidadjekfcacaaDoor
open Go.RowKit Go.Shelf
set_option linter.unusedVariables false
attribute [local go_sem] Oper.semAt_some

/-- What an element's cells hold. -/
structure KidV where
  rule : Int
  term : Int
  A : Option Addr
  n : Nat
  c : Nat
def KidV.val (x : KidV) : Value := .agg #[.int .i64 x.rule, .int .i64 x.term, .slice x.A x.n x.c]
/-- What comes: the elements with their places, from the end on. -/
def bwd {β : Type} (zs : List β) : List (β × Nat) := zs.zipIdx.reverse
theorem bwd_len {β : Type} (zs : List β) : (bwd zs).length = zs.length := by simp [bwd]
theorem bwd_get {β : Type} {zs : List β} {k j : Nat} {x : β} (hj : j + k + 1 = zs.length) (hx : zs[j]? = some x) : (bwd zs)[k]? = some (x, j) := by
  unfold bwd
  rw [List.getElem?_reverse (by simp; omega), List.length_zipIdx, List.getElem?_zipIdx, show zs.length - 1 - k = j by omega, hx]
  simp
theorem bwd_succ {β : Type} {zs : List β} {k : Nat} {a : β × Nat} (h : (bwd zs)[k]? = some a) : (bwd zs).take (k + 1) = (bwd zs).take k ++ [a] := by
  rw [List.take_add_one, h]; rfl

set_option maxRecDepth 100000 in
set_option maxHeartbeats 2000000 in
theorem backward1_in (F : Fence) (n : Nat) (h8 : F.fn 125) (hro : F.round = none) (hn : 1 ≤ n) (l Bs b off cap : Nat) (X : Nat → Prop) {β : Type} (val : β → KidV) (zs : List β) (hreach : zs.length ≤ 2000000) (hb : ¬ X b) (J Jx : List (β × Nat) → World → Prop)
    (hY : ∀ pre x W, J pre W → pre.length < zs.length → YieldAt F (n - 1) Tryd.prog l #[.int .i64 (x.2 : Int), (val x.1).val] W fun e W' =>
      (e = .returned (.bool true) ∧ J (pre ++ [x]) W' ∧ Kept X W W') ∨ (e = .returned (.bool false) ∧ Jx (pre ++ [x]) W'))
    (W : World) (hB : ¬ X Bs) (hBs : W.cell? ⟨Bs, 0, none⟩ = some (.slice (some ⟨b, off, none⟩) zs.length cap))
    (hc : ∀ j x, zs[j]? = some x → W.cell? ⟨b, off + j * 3, none⟩ = some (.int .i64 (val x).rule) ∧ W.cell? ⟨b, off + j * 3 + 1, none⟩ = some (.int .i64 (val x).term) ∧ W.cell? ⟨b, off + j * 3 + 1 + 1, none⟩ = some (.slice (val x).A (val x).n (val x).c)) (h0 : J [] W) :
    CallsIn F n Tryd.prog 125 #[.func (.yield l) #[] #[], .pointer (some ⟨Bs, 0, none⟩)] W fun e W' => (∃ v, e = .returned v) ∧
      ((∃ ys, ys = bwd zs ∧ J ys W') ∨ (∃ pre, (∃ k, k ≤ zs.length ∧ pre = (bwd zs).take k) ∧ Jx pre W')) := by
  have hw0 : IntKind.i64.wrap ((zs.length : Int) - 1) = (zs.length : Int) - 1 := IntWalk.i64_in _ (by omega)
  refine callsIn_of_wp Tryd.func125 rfl h8 ?_ hro
  simp only [Tryd.ntmps125, List.size_toArray, List.length_cons, List.length_nil, Nat.reduceAdd, Nat.reduceSub, Array.replicate_succ, Array.replicate_zero, List.push_toArray, List.append_toArray, List.nil_append, List.cons_append]
  gi_wp2
  clear hw0
  gi_loopw [3] (fun i wr => ∃ (k : Nat) (jv : Int), k ≤ zs.length ∧ jv = (zs.length : Int) - 1 - (k : Int) ∧ i = .int .i64 jv ∧ J ((bwd zs).take k) wr ∧ Kept X W wr)
    (fun i _ => (intOf i + 1).toNat)
  case atStart => exact ⟨0, _, Nat.zero_le _, by omega, rfl, h0, Kept.refl _ _⟩
  case round =>
    obtain ⟨k, jv, hk, hjv, rfl, hJs, hnx⟩ := hrel
    have hs : wr.cell? ⟨Bs, 0, none⟩ = some (.slice (some ⟨b, off, none⟩) zs.length cap) := (hnx.cell (p := ⟨Bs, 0, none⟩) (World.block_lt_of_cell? _ _ hBs) hB).trans hBs
    by_cases hlt : k < zs.length
    · obtain ⟨j, rfl⟩ : ∃ j : Nat, jv = (j : Int) := ⟨jv.toNat, by omega⟩
      obtain ⟨x, hx⟩ := get_some (show j < zs.length by omega)
      have hf := bwd_succ (bwd_get (k := k) (by omega) hx)
      obtain ⟨fn, tmps, assign, body, hy, hR⟩ := hY _ (x, j) wr hJs (by rw [List.length_take, bwd_len]; omega)
      obtain ⟨c0, c1, c2⟩ := hc j x hx
      have d0 := (hnx.cell (p := ⟨b, off + j * 3, none⟩) (World.block_lt_of_cell? _ _ c0) hb).trans c0
      have d1 := (hnx.cell (p := ⟨b, off + j * 3 + 1, none⟩) (World.block_lt_of_cell? _ _ c1) hb).trans c1
      have d2 := (hnx.cell (p := ⟨b, off + j * 3 + 1 + 1, none⟩) (World.block_lt_of_cell? _ _ c2) hb).trans c2
      obtain ⟨⟨xr, xt, xA, xn, xc⟩, hv⟩ : ∃ v, v = val x := ⟨_, rfl⟩
      dsimp only at hy hR
      rw [← hv] at hy d0 d1 d2
      dsimp only [KidV.val] at hy d0 d1 d2
      have j0 : (0 : Int) ≤ (j : Int) := by omega
      have j1 : (j : Int) < (zs.length : Int) := by omega
      have hw1 : IntKind.i64.wrap ((j : Int) - 1) = (j : Int) - 1 := IntWalk.i64_in _ (by omega)
      have HJv := Lib.hid hjv
      have HF := Lib.hid hf
      clear hx hf hjv c0 c1 c2 hv
      gi_wp2
      refine hR.mono ?_
      rintro e W3 (⟨rfl, hJ3, hk3⟩ | ⟨rfl, hJx3⟩)
      · gi_wp2
        go_roundw
        case rel => exact ⟨k + 1, _, by omega, by have := HJv.out; omega, rfl, by rw [HF.out]; exact hJ3, hnx.trans hk3⟩
        case measure => have := HJv.out; first | (simp [intOf]; done) | (simp [intOf]; omega)
      · gi_wp2
        refine bodyPost_ret (results_none rfl _ _ _) rfl ?_
        exact ⟨⟨_, rfl⟩, .inr ⟨_, ⟨k + 1, by omega, rfl⟩, by rw [HF.out]; exact hJx3⟩⟩
    · have hkz : k = zs.length := by omega
      have hneg : ¬ (0 : Int) ≤ jv := by omega
      have e : (bwd zs).take k = bwd zs := List.take_of_length_le (by rw [bwd_len]; omega)
      rw [e] at hJs
      have HJs := Lib.hid hJs
      clear hjv e hJs
      gi_wp2
      go_end0
      exact ⟨⟨_, rfl⟩, .inl (by first | exact HJs.out | exact ⟨_, rfl, HJs.out⟩)⟩

set_option maxRecDepth 100000 in
set_option maxHeartbeats 1000000 in
theorem backward1_nil_in (F : Fence) (n : Nat) (h8 : F.fn 125) (hro : F.round = none) (l Bs cap : Nat) (A : Option Addr) {β : Type} (J : List (β × Nat) → World → Prop) (W : World) (hBs : W.cell? ⟨Bs, 0, none⟩ = some (.slice A 0 cap)) (h0 : J [] W) :
    CallsIn F n Tryd.prog 125 #[.func (.yield l) #[] #[], .pointer (some ⟨Bs, 0, none⟩)] W fun e W' => (∃ v, e = .returned v) ∧ J [] W' := by
  have hw0 : IntKind.i64.wrap (-1 : Int) = -1 := IntWalk.i64_in _ (by omega)
  refine callsIn_of_wp Tryd.func125 rfl h8 ?_ hro
  simp only [Tryd.ntmps125, List.size_toArray, List.length_cons, List.length_nil, Nat.reduceAdd, Nat.reduceSub, Array.replicate_succ, Array.replicate_zero, List.push_toArray, List.append_toArray, List.nil_append, List.cons_append]
  gi_wp2
  gi_loopw [3] (fun i wr => i = .int .i64 (-1) ∧ J [] wr) (fun _ _ => 0)
  case atStart => exact ⟨rfl, h0⟩
  case round =>
    obtain ⟨rfl, hJs⟩ := hrel
    gi_wp2
    go_end0
    exact ⟨⟨_, rfl⟩, hJs⟩

set_option maxHeartbeats 1000000 in
theorem backward_in (F : Fence) (n : Nat) (h6 : F.fn 76) (hro : F.round = none) (a : Option Addr) (len cap : Nat) (w : World) :
    CallsIn F n Tryd.prog 76 #[.slice a len cap] w fun e w' => e = .returned (.func (.func 125) #[] #[.pointer (some ⟨w.heap.size, 0, none⟩)]) ∧ w' = w.alloc (.cells #[.slice a len cap] 48) := by
  refine callsIn_of_wp Tryd.func76 rfl h6 ?_ hro
  simp only [Tryd.ntmps76, List.size_toArray, List.length_cons, List.length_nil, Nat.reduceAdd, Nat.reduceSub, Array.replicate_succ, Array.replicate_zero, List.push_toArray, List.append_toArray, List.nil_append, List.cons_append]
  gi_wp2
  go_ret
  exact ⟨rfl, rfl⟩

theorem backward_stops (F : Fence) (n : Nat) (h8 : F.fn 125) (hro : F.round = none) (hn : 1 ≤ n) (Bs : Nat) (X : Nat → Prop) (A : Option Addr) (cap : Nat) {β : Type} (val : β → KidV) (zs : List β) (hreach : zs.length ≤ 2000000) (w : World) (hBs : ¬ X Bs)
    (hc : w.cell? ⟨Bs, 0, none⟩ = some (.slice A zs.length cap)) (hI : zs ≠ [] → ∃ b off, A = some ⟨b, off, none⟩ ∧ ¬ X b ∧ ∀ j x, zs[j]? = some x → w.cell? ⟨b, off + j * 3, none⟩ = some (.int .i64 (val x).rule) ∧ w.cell? ⟨b, off + j * 3 + 1, none⟩ = some (.int .i64 (val x).term) ∧ w.cell? ⟨b, off + j * 3 + 1 + 1, none⟩ = some (.slice (val x).A (val x).n (val x).c)) :
    SeqStopsK F n Tryd.prog 125 #[.pointer (some ⟨Bs, 0, none⟩)] (fun x : β × Nat => #[Value.int .i64 (x.2 : Int), (val x.1).val]) (Kept X) (fun ys => ys = bwd zs)
      (fun pre => ∃ k, k ≤ zs.length ∧ pre = (bwd zs).take k) zs.length w := fun l J Jx W hW _ _ hY h0 => by
  have hc' := (hW.cell (p := ⟨Bs, 0, none⟩) (World.block_lt_of_cell? _ _ hc)).trans hc
  by_cases hz : zs = []
  · subst hz
    exact (backward1_nil_in F n h8 hro l Bs cap A J W hc' h0).mono fun e W' ⟨he, hj⟩ => ⟨he, .inl ⟨_, rfl, hj⟩⟩
  · obtain ⟨b, off, rfl, hb, hcs⟩ := hI hz
    exact backward1_in F n h8 hro hn l Bs b off cap X val zs hreach hb J Jx hY W hBs hc' (fun j x hx => by
      obtain ⟨k0, k1, k2⟩ := hcs j x hx
      exact ⟨(hW.cell (p := ⟨b, off + j * 3, none⟩) (World.block_lt_of_cell? _ _ k0)).trans k0, (hW.cell (p := ⟨b, off + j * 3 + 1, none⟩) (World.block_lt_of_cell? _ _ k1)).trans k1, (hW.cell (p := ⟨b, off + j * 3 + 1 + 1, none⟩) (World.block_lt_of_cell? _ _ k2)).trans k2⟩) h0
end Go.Proofs.YtaidadjekfcacaaDoor

/- Rows of trees through a turn of a block that holds no cells. No program is named here. -/
namespace Go.Proofs.YtaidadjekfcacaaDoor
open Go.RowKit
set_option linter.unusedVariables false

mutual
theorem rdT_turn {w w' : World} {S S' : Nat → Prop} (hk : ∀ p v, w.cell? p = some v → w'.cell? p = some v) (hS : ∀ b, S b → S' b) : ∀ (t : Tree) (cs : List Value), rdT w S t cs → rdT w' S' t cs
  | ⟨r, t, ks⟩, cs, h => by
    unfold rdT at h ⊢
    obtain ⟨h1, h2, A, c, h3, h4, h5, h6⟩ := h
    refine ⟨h1, h2, A, c, h3, h4, h5, fun hne => ?_⟩
    obtain ⟨b, o, hA, hb, hks⟩ := h6 hne
    exact ⟨b, o, hA, hS _ hb, rdTs_turn hk hS ks b o hks⟩
theorem rdTs_turn {w w' : World} {S S' : Nat → Prop} (hk : ∀ p v, w.cell? p = some v → w'.cell? p = some v) (hS : ∀ b, S b → S' b) : ∀ (ks : List Tree) (b o : Nat), rdTs w S ks b o → rdTs w' S' ks b o
  | [], _, _, _ => by simp [rdTs]
  | k :: ks, b, o, h => by
    rw [rdTs] at h ⊢
    obtain ⟨⟨cs, h1, h2⟩, h3⟩ := h
    exact ⟨⟨cs, rdT_turn hk hS k cs h1, fun j u hu => hk _ _ (h2 j u hu)⟩, rdTs_turn hk hS ks b (o + 3) h3⟩
end
/-- An own row of trees. -/
theorem Own.turn {w w' : World} {S : Nat → Prop} {base : Nat} {e : TypeId} {v : Value} {xs : List Tree} {row : Option Nat} (h : Own w S base e v xs) (hg : w.grownBy w' row) (hr : ∀ r, row = some r → ∃ o : Obj, w.heap[r]? = some o ∧ o.isCells = false) : Own w' S base e v xs := by
  obtain ⟨css, h1, h2, h3⟩ := h
  refine ⟨css, h1.kept hg ?_, h2, fun i x cs hi hc => rdT_turn (fun p v hp => cell_kept hp hg hr) (fun b hb => ⟨hb.1, hb.2.1, Nat.lt_of_lt_of_le hb.2.2 hg.size⟩) _ _ (h3 i x cs hi hc)⟩
  rcases h1.2 with ⟨rfl, hn⟩ | ⟨g, cap, cur, rfl, hg', hh, _⟩
  · exact .inl rfl
  · refine .inr (fun e => ?_)
    obtain ⟨o, ho, hc⟩ := hr g e.symm
    rw [hh] at ho
    cases ho
    cases hc
theorem Blk'.turn {w w' : World} {b : Nat} {t : TypeId} {cs : Array Value} {row : Option Nat} (h : Blk' w b t cs) (hg : w.grownBy w' row) (hr : ∀ r, row = some r → ∃ o : Obj, w.heap[r]? = some o ∧ o.isCells = false) : Blk' w' b t cs :=
  (hg.block b h.lt (fun e => by
    obtain ⟨o, ho, hc⟩ := hr b e.symm
    rw [show w.heap[b]? = _ from h] at ho
    cases ho
    cases hc)).trans h
end Go.Proofs.YtaidadjekfcacaaDoor

/- A region that draws its order, in a round of a loop over a function: by the walk of a plain region. A row of trees whose last element is stored over. No program is named here. -/
namespace Go.Proofs.YtaidadjekfcacaaDoor
open Go.RowKit
set_option linter.unusedVariables false

theorem oper_round {l n : Nat} {P : Program} {o : Oper} {a : Act} {w : World} {K : Act → World → Prop} {Q : Exit → Act → World → Prop} (hnd : ∀ c, o.op ≠ .defer c) (h : o.wp P a w K Q) : o.wpIn (Fence.wide.inRound l) n P a w K Q := by
  refine ⟨fun _ _ => trivial, ?_⟩
  rw [show (Fence.wide.inRound l).round = some l from rfl, Oper.semAt_some l _ _ hnd]
  unfold Oper.wp at h
  generalize (execOp a.eval o).run P w = r at h ⊢
  cases r with
  | ok x w' =>
    cases x <;> simp only [Oper.upon, Oper.uponIn] at h ⊢ <;>
      first
        | exact h
        | exact h.elim
        | exact ⟨fun h => (by cases h), callsIn_wide.2 h⟩
        | exact ⟨fun h => (by cases h), fun c cs _ => let ⟨v, w', r, s⟩ := h c cs; ⟨v, w', r, stepsIn_wide.2 s⟩⟩
  | halt x w' => cases x <;> simp only [Oper.upon, Oper.uponIn] at h ⊢ <;> exact h
def noDefer (ops : Array Oper) : Bool := ops.all fun o => match o.op with | .defer _ => false | _ => true
theorem noDefer_at {ops : Array Oper} (h : noDefer ops = true) {i : Nat} {o : Oper} (hi : ops[i]? = some o) : ∀ c, o.op ≠ .defer c := by
  intro c e
  unfold noDefer at h
  rw [Array.all_eq_true] at h
  obtain ⟨hl, ho⟩ := Array.getElem?_eq_some_iff.1 hi
  have := h i hl
  rw [ho, e] at this
  cases this
theorem wpOp_round {l n : Nat} {P : Program} {ops : Array Oper} {Q : Exit → Act → World → Prop} (hnd : noDefer ops = true) (hlo : ¬ LetsOut Q) {i : Nat} {K : Act → World → Prop} {a : Act} {w : World} (h : wpOp P ops Q i K a w) : wpOpIn (Fence.wide.inRound l) n P ops Q i K a w := by
  unfold wpOp at h
  unfold wpOpIn
  cases ho : ops[i]? with
  | none => rw [ho] at h; exact h
  | some o =>
    rw [ho] at h
    dsimp only at h ⊢
    by_cases hw : Region.wanted o (yielded ops a.tmps) = true
    · rw [if_pos hw] at h ⊢
      exact oper_round (noDefer_at hnd ho) (h.resolve_right (fun h => hlo h.2))
    · rw [if_neg hw] at h ⊢
      exact ⟨fun _ _ => trivial, h⟩
theorem wpAny_round {l n : Nat} {P : Program} {md : Region.Mode} {ops : Array Oper} {Q : Exit → Act → World → Prop} (hnd : noDefer ops = true) (hlo : ¬ LetsOut Q) : ∀ (fuel : Nat) (listed : Array Bool) (a : Act) (w : World), wpAny P md ops Q fuel listed a w → wpAnyIn (Fence.wide.inRound l) n P md ops Q fuel listed a w
  | 0, _, _, _, h => h
  | fuel + 1, _, _, _, h => ⟨h.1, fun i hi => wpOpIn_mono (fun a' w' h' => wpAny_round hnd hlo fuel _ a' w' h') (wpOp_round hnd hlo (h.2 i hi))⟩
theorem region_round {l n : Nat} {P : Program} {ops : Array Oper} {Q : Exit → Act → World → Prop} {id : Nat} {a : Act} {w : World} (hm : P.follows .mixedOrders = true) (hnd : noDefer ops = true) (hlo : ¬ LetsOut Q) (h : wpAny P .any ops Q ops.size (Array.replicate ops.size false) a w.drew) : (Code.region id ops true).wpIn (Fence.wide.inRound l) n P Q a w :=
  wpIn_region_any hm (wpAny_round hnd hlo _ _ _ _ h)

section
variable {P : Program} {l : List Oper} {Q : Exit → Act → World → Prop} {md : Region.Mode} {S : World → Prop}
/-- Three operations that may come up. -/
theorem take_three {i j k : Nat} {o o' o'' : Oper} {rest rest' rest'' : List Oper} {fuel : Nat} {listed : Array Bool} {a : Act} {w : World} (hi : l.drop i = o :: rest) (hj : l.drop j = o' :: rest') (hk : l.drop k = o'' :: rest'') (hr : Region.ready md l.toArray listed = [i, j, k]) (hwi : Region.wanted o (yielded l.toArray a.tmps) = true) (hwj : Region.wanted o' (yielded l.toArray a.tmps) = true) (hwk : Region.wanted o'' (yielded l.toArray a.tmps) = true)
    (h1 : ∀ K' : Act → World → Prop, Shut (∀ a w, S w → (S w → wpAnyH P md l.toArray Q S fuel (listed.setIfInBounds i true) a w) → K' a w) → Oper.wp P o a w K' Q)
    (h2 : ∀ K' : Act → World → Prop, Shut (∀ a w, S w → (S w → wpAnyH P md l.toArray Q S fuel (listed.setIfInBounds j true) a w) → K' a w) → Oper.wp P o' a w K' Q)
    (h3 : ∀ K' : Act → World → Prop, Shut (∀ a w, S w → (S w → wpAnyH P md l.toArray Q S fuel (listed.setIfInBounds k true) a w) → K' a w) → Oper.wp P o'' a w K' Q) : wpAnyH P md l.toArray Q S (fuel + 1) listed a w :=
  wpAnyH_ready hr (by simp) (AllReadyH.cons (drop_get hi) (fun K hK => by rw [if_pos hwi]; exact h1 K hK) (AllReadyH.cons (drop_get hj) (fun K hK => by rw [if_pos hwj]; exact h2 K hK) (AllReadyH.cons (drop_get hk) (fun K hK => by rw [if_pos hwk]; exact h3 K hK) AllReadyH.nil)))
end

/-- The last element of an own row is stored over. -/
theorem Own.setLast {w : World} {S : Nat → Prop} {base g n c : Nat} {e : TypeId} {xs : List Tree} {x y : Tree} {a0 a1 a2 : Value} (h : Own w S base e (.slice (some ⟨g, 0, none⟩) n c) (xs ++ [y])) (hx : Dat.rd w (OwnT S base (.slice (some ⟨g, 0, none⟩) n c) w) x [a0, a1, a2]) :
    Own (((w.setCell ⟨g, xs.length * 3, none⟩ a0).setCell ⟨g, xs.length * 3 + 1, none⟩ a1).setCell ⟨g, xs.length * 3 + 2, none⟩ a2) S base e (.slice (some ⟨g, 0, none⟩) n c) (xs ++ [x]) := by
  obtain ⟨css, h1, h2, h3⟩ := h
  have hl : css.length = xs.length + 1 := by rw [h2]; simp
  have hlast : css[xs.length]? = some css[xs.length] := List.getElem?_eq_getElem (by omega)
  obtain ⟨d, hd⟩ : ∃ d, d = css[xs.length] := ⟨_, rfl⟩
  have hcss : css = css.take xs.length ++ [d] := by
    have h9 := take_snoc hlast
    rw [← hd] at h9
    rw [← h9, List.take_of_length_le (by omega)]
  have hdl : d.length = 3 := by
    have := h3 xs.length y d (by simp) (by rw [hlast, hd])
    exact Dat.len this
  have hcl : ∀ cs ∈ css.take xs.length, cs.length = 3 := by
    intro cs hcs
    obtain ⟨i, hi, rfl⟩ := List.getElem_of_mem hcs
    rw [List.length_take] at hi
    have hxi : (xs ++ [y])[i]? = some (xs[i]'(by omega)) := by rw [List.getElem?_append_left (by omega)]; exact List.getElem?_eq_getElem (by omega)
    exact Dat.len (h3 i _ _ hxi (by rw [List.getElem_take]; exact List.getElem?_eq_getElem (by omega)))
  have hfl : (css.take xs.length).flatten.length = xs.length * 3 := by rw [flat_len _ hcl, List.length_take]; congr 1; omega
  have hk : Kept (fun b => b = g) w (((w.setCell ⟨g, xs.length * 3, none⟩ a0).setCell ⟨g, xs.length * 3 + 1, none⟩ a1).setCell ⟨g, xs.length * 3 + 2, none⟩ a2) := (((Kept.refl (fun b => b = g) w).setCell (p := ⟨g, xs.length * 3, none⟩) (.inl rfl) _).setCell (p := ⟨g, xs.length * 3 + 1, none⟩) (.inl rfl) _).setCell (p := ⟨g, xs.length * 3 + 2, none⟩) (.inl rfl) _
  have hrd : ∀ {z : Tree} {cs : List Value}, Dat.rd w (OwnT S base (.slice (some ⟨g, 0, none⟩) n c) w) z cs → Dat.rd (((w.setCell ⟨g, xs.length * 3, none⟩ a0).setCell ⟨g, xs.length * 3 + 1, none⟩ a1).setCell ⟨g, xs.length * 3 + 2, none⟩ a2) (OwnT S base (.slice (some ⟨g, 0, none⟩) n c) (((w.setCell ⟨g, xs.length * 3, none⟩ a0).setCell ⟨g, xs.length * 3 + 1, none⟩ a1).setCell ⟨g, xs.length * 3 + 2, none⟩ a2)) z cs := fun hz =>
    Dat.keep (fun p hp hlt => hk.cell hlt (fun e => hp.2.1 (by rw [e]; rfl))) (fun b hb => ⟨hb.1, hb.2.1, Nat.lt_of_lt_of_le hb.2.2 hk.size⟩) hz
  refine ⟨css.take xs.length ++ [[a0, a1, a2]], ?_, by simp; omega, fun i z cs hi hc => ?_⟩
  · rcases h1.2 with ⟨e1, _⟩ | ⟨g', cap, cur, e1, hg, hh, hnc, hcm, hsz, htk⟩
    · cases e1
    · injection e1 with e1 e2 e3
      injection e1 with e1
      injection e1 with e1 _ _
      subst e1; subst e3
      have hb : Blk' w g e cur := hh
      have hb3 := ((hb.set_ (xs.length * 3) a0).set_ (xs.length * 3 + 1) a1).set_ (xs.length * 3 + 2) a2
      have hlen1 : (xs ++ [y]).length = xs.length + 1 := by simp
      have hlen2 : (xs ++ [x]).length = xs.length + 1 := by simp
      rw [hlen1] at htk hnc e2
      refine ⟨by rw [hlen2]; simp only [List.flatten_append, List.length_append, hfl]; show xs.length * 3 + 3 = (xs.length + 1) * 3; omega, .inr ⟨g, c, _, by rw [hlen2, e2], hg, hb3, by rw [hlen2]; exact hnc, hcm, by simp only [Array.size_setIfInBounds]; exact hsz, ?_⟩⟩
      have hcs : cur.size = c * 3 := hsz
      have htk' : cur.toList.take ((xs.length + 1) * 3) = (css.take xs.length).flatten ++ d := by
        have h9 : cur.toList.take ((xs.length + 1) * 3) = css.flatten := htk
        rw [h9]
        conv => lhs; rw [hcss]
        simp
      rw [hlen2]
      show List.take ((xs.length + 1) * 3) _ = _
      apply List.ext_getElem?
      intro i
      have hget : ∀ k, k < (xs.length + 1) * 3 → cur[k]? = ((css.take xs.length).flatten ++ d)[k]? := fun k hk => by
        rw [← htk', List.getElem?_take_of_lt hk, Array.getElem?_toList]
      by_cases hi : i < (xs.length + 1) * 3
      · rw [List.getElem?_take_of_lt hi, Array.getElem?_toList]
        have hi0 : i < cur.size := by rw [hcs]; have := Nat.mul_le_mul_right 3 hnc; omega
        have e3 : (css.take xs.length ++ [[a0, a1, a2]]).flatten = (css.take xs.length).flatten ++ [a0, a1, a2] := by simp
        rw [e3]
        by_cases h4 : i < xs.length * 3
        · rw [Array.getElem?_setIfInBounds_ne (by omega), Array.getElem?_setIfInBounds_ne (by omega), Array.getElem?_setIfInBounds_ne (by omega), hget i hi, List.getElem?_append_left (by omega), List.getElem?_append_left (by omega)]
        · rw [List.getElem?_append_right (by omega), hfl]
          have h5 : i = xs.length * 3 ∨ i = xs.length * 3 + 1 ∨ i = xs.length * 3 + 2 := by omega
          rcases h5 with rfl | rfl | rfl
          · rw [Array.getElem?_setIfInBounds_ne (by omega), Array.getElem?_setIfInBounds_ne (by omega), Array.getElem?_setIfInBounds_self_of_lt hi0, Nat.sub_self]; rfl
          · rw [Array.getElem?_setIfInBounds_ne (by omega), Array.getElem?_setIfInBounds_self_of_lt (by simpa using hi0), Nat.add_sub_cancel_left]; rfl
          · rw [Array.getElem?_setIfInBounds_self_of_lt (by simpa using hi0), Nat.add_sub_cancel_left]; rfl
      · rw [List.getElem?_take_eq_none (by omega), List.getElem?_eq_none]
        simp only [List.flatten_append, List.length_append, hfl]
        show xs.length * 3 + 3 ≤ i
        omega
  · have htl : (css.take xs.length).length = xs.length := by rw [List.length_take]; omega
    by_cases hlt : i < xs.length
    · rw [List.getElem?_append_left hlt] at hi
      rw [List.getElem?_append_left (by omega), List.getElem?_take_of_lt hlt] at hc
      exact hrd (h3 i z cs (by rw [List.getElem?_append_left hlt]; exact hi) hc)
    · have hii : i = xs.length := by have := (List.getElem?_eq_some_iff.1 hi).1; simp at this; omega
      subst hii
      rw [List.getElem?_append_right (Nat.le_refl _), Nat.sub_self] at hi
      rw [List.getElem?_append_right (by omega), htl, Nat.sub_self] at hc
      simp at hi hc
      subst hi; subst hc
      exact hrd hx
end Go.Proofs.YtaidadjekfcacaaDoor

/- What the type of trees (a type that leads to itself) reads as: by recursion on the reading's own fuel. -/
namespace Go.Proofs.YtaidadjekfcacaaDoor
open Go.RowKit Go.ChangeShapes Go.WideShapes Go.Deep

def OpensAt (P : Program) (α : Type) [Dat α] [Blk α] (t : TypeId) (fuel : Nat) : Prop :=
  ∀ {H : Type} (enc : TypeId × Value → H) (w : World) (base : Nat) (spare : Nat → Bool) (held : Bool) (cs : List Value) (y : DataW H × List MemPlace),
    DataW.trod enc P w base spare held fuel t cs = some y → ∃ x : α, Dat.rd w (OldS w) x cs ∧ Blk.blk x ≤ Rows.uptoBulk y.1

theorem bulkAll_two {H β : Type} {α : Type} [Blk α] : ∀ (ys : List (DataW H × β)) (xs : List α), xs.length = ys.length → (∀ (i : Nat) (x : α) (z : DataW H × β), xs[i]? = some x → ys[i]? = some z → Blk.blk x ≤ Rows.uptoBulk z.1) → blkAll xs ≤ Rows.uptoBulkAll (ys.map (·.1))
  | [], [], _, _ => by simp [blkAll]
  | [], _ :: _, h, _ => by simp at h
  | _ :: _, [], h, _ => by simp at h
  | y :: ys, x :: xs, h, hi => by
    have h0 := hi 0 x y rfl rfl
    have ih := bulkAll_two ys xs (by simpa using h) (fun i a z ha hz => hi (i + 1) a z (by simpa using ha) (by simpa using hz))
    simp only [List.map_cons, blkAll, Rows.uptoBulkAll]
    omega

section
variable {P : Program}
theorem opensAt_slice {α : Type} [Dat α] [Blk α] {t e : TypeId} {fuel : Nat} (ht : P.underlying t = some (.slice e)) (hC : P.cellsOf e = Dat.size α) (he : ∀ n, fuel = n + 1 → OpensAt P α e n) : OpensAt P (List α) t fuel := by
  intro H enc w base spare held cs y h
  rcases DataW.trod_slice ht h with ⟨rfl, rfl⟩ | ⟨a, len, cap, elems, rest, n, hn, rfl, rfl, hb, hl, hm, hlen, hel, _, _⟩
  · exact ⟨[], ⟨none, 0, rfl, by simp, by simp, fun h => absurd rfl h⟩, by simp [Rows.uptoBulk, Blk.blk, blkAll]⟩
  · obtain ⟨xs, hxl, hx⟩ := list_of_lt (R := fun i (x : α) => (∃ cs, w.cells? base (a.add (i * Dat.size α)) (Dat.size α) = some cs ∧ Dat.rd w (OldS w) x cs) ∧ ∀ z, elems[i]? = some z → Blk.blk x ≤ Rows.uptoBulk z.1) len (fun i hil => by
      have h1 := hel i hil
      obtain ⟨z, hz⟩ : ∃ z, elems[i]? = some z := ⟨_, List.getElem?_eq_getElem (by omega)⟩
      rw [hz] at h1
      obtain ⟨cs', hc, ht'⟩ := Option.bind_eq_some_iff.1 h1
      obtain ⟨x, k1, k2⟩ := he n hn enc w base spare held cs' z ht'
      rw [hC] at hc
      exact ⟨x, ⟨cs', hc, k1⟩, fun z' hz' => by rw [hz] at hz'; cases hz'; exact k2⟩)
    refine ⟨xs, ⟨some a, cap, by rw [hxl], by omega, hm, els_of_cells hxl fun i x hi => (hx i x hi).1⟩, ?_⟩
    have hb := bulkAll_two elems xs (by omega) (fun i x z hi hz => (hx i x hi).2 z hz)
    simp only [Rows.uptoBulk, Blk.blk]
    omega

theorem opens_tree {t : TypeId} {f0 f1 f2 : Field} (hs : P.underlying t = some (.struct #[f0, f1, f2])) (hone : oneCellFields P #[f0, f1, f2] = true) (hC : P.cellsOf t = 3) (h0 : Opens P Int f0.type) (h1 : Opens P Int f1.type) (h2 : P.underlying f2.type = some (.slice t)) : ∀ fuel, OpensAt P Tree t fuel := by
  intro fuel
  induction fuel using Nat.strongRecOn with
  | _ fuel ih =>
    intro H enc w base spare held cs y h
    obtain ⟨n, ys, hn, hy, hl, hyl, hf⟩ := trod_fields hs hone hC h
    match cs, hl, ys, hyl with
    | [c0, c1, c2], _, [y0, y1, y2], _ =>
      obtain ⟨z0, ⟨hz0, hz0'⟩, hb0⟩ := h0 enc w base spare held n [c0] y0 (hf 0 f0 c0 y0 rfl rfl rfl)
      obtain ⟨z1, ⟨hz1, hz1'⟩, hb1⟩ := h1 enc w base spare held n [c1] y1 (hf 1 f1 c1 y1 rfl rfl rfl)
      obtain ⟨r, hr, hbr⟩ := opensAt_slice (α := Tree) (fuel := n) h2 hC (fun m hm => ih m (by omega)) enc w base spare held [c2] y2 (hf 2 f2 c2 y2 rfl rfl rfl)
      obtain rfl : c0 = .int .i64 z0 := by simpa using hz0
      obtain rfl : c1 = .int .i64 z1 := by simpa using hz1
      obtain ⟨v, hv, hvl⟩ := rd_slice hr
      obtain rfl : c2 = v := by simpa using hv
      refine ⟨⟨z0, z1, r⟩, rd_tree.2 ⟨c2, rfl, hz0', hz1', hvl⟩, ?_⟩
      rw [hy]
      have e0 : Blk.blk z0 = 1 := rfl
      have e1 : Blk.blk z1 = 1 := rfl
      have er : Blk.blk r = blkAll r + 1 := rfl
      simp only [List.map_cons, List.map_nil, Rows.uptoBulk, Rows.uptoBulkAll]
      show blkTree ⟨z0, z1, r⟩ ≤ _
      rw [blkTree, blkTrees_eq]
      omega
end
mutual
theorem nodes_blk : ∀ t : Tree, 4 * nodesT t ≤ blkTree t
  | ⟨a, b, ks⟩ => by rw [nodesT, blkTree]; have := nodes_blks ks; omega
theorem nodes_blks : ∀ ks : List Tree, 4 * nodesL ks ≤ blkTrees ks
  | [] => by simp [nodesL, blkTrees]
  | k :: ks => by rw [nodesL, blkTrees]; have := nodes_blk k; have := nodes_blks ks; omega
end
theorem opensTree : Opens Tryd.prog Tree 50 := fun enc w base spare held fuel cs y h => opens_tree Tryd.underlying50 (by kernel_rfl) (by kernel_rfl) (opens_int Tryd.underlying3) (opens_int Tryd.underlying3) Tryd.underlying48 fuel enc w base spare held cs y h
end Go.Proofs.YtaidadjekfcacaaDoor

