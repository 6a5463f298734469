/- Plain facts and definitions of this proof, of several texts joined: Mem, Data, Open, Opens, Elem, Idx, App, SortSLay, Kept, Take, FirstP, Nodes, VtB, FacP, AccP, CntP, TreeBij, IntCells, RegByHand, RegStage, TakeThr, ElsS. -/
import Derived.WalkKit
import Derived.WalkSpells
import Derived.WalkLawsBesides
import Derived.Deep.Draws
import Derived.Lib.Hide
import Derived.Maps.AppendAt
import Derived.Test.YtjdojogjogenkaaRows
import Derived.ProofKit
import Derived.Deep.Slices
import Derived.Deep.Fields
import Derived.ChangeSame
import Derived.Test.YtjdojogjogenkaaChecked
import Derived.Lib.AppendZeros
import Derived.Shelf.SlSortCmp.WholeK
import Derived.Lib.TrailingZeros
import Derived.StillTailTactics
import Derived.Laws.CopyOwn
import Derived.Deep.OwnRows
import Derived.IntWalk
import Derived.Deep.RegionHeld3
/- How values in the model's memory read as plain data: a class of readable types, slices of them, and rows that the call itself owns and appends to. No program is named here. -/
namespace Go.Proofs.Ytjdojogjogenkaa
open Go.RowKit
theorem ret_int {k : IntKind} {a b : Int} (h : a = b) : Ending.returned (.int k a) = .returned (.int k b) := by rw [h]
theorem ret_bool {a b : Bool} (h : a = b) : Ending.returned (.bool a) = .returned (.bool b) := by rw [h]
theorem drop_cons {α : Type} {xs : List α} {k : Nat} {x : α} (h : xs[k]? = some x) : xs.drop k = x :: xs.drop (k + 1) := by
 obtain ⟨hlt, rfl⟩ := List.getElem?_eq_some_iff.1 h
 exact List.drop_eq_getElem_cons hlt
theorem get_some {α : Type} {xs : List α} {k : Nat} (h : k < xs.length) : ∃ x, xs[k]? = some x := ⟨_, List.getElem?_eq_getElem h⟩
theorem take_snoc {α : Type} {xs : List α} {k : Nat} {x : α} (h : xs[k]? = some x) : xs.take (k + 1) = xs.take k ++ [x] := by
 rw [List.take_add_one, h]; rfl
def I64 (n : Int) : Prop := -9223372036854775808 ≤ n ∧ n ≤ 9223372036854775807
def At (w : World) (b o : Nat) (cs : List Value) : Prop := ∀ j u, cs[j]? = some u → w.cell? ⟨b, o + j, none⟩ = some u
class Dat (α : Type) where
 size : Nat
 wraps : Bool
 rd : World → (Nat → Prop) → α → List Value → Prop
 len : ∀ {w S x cs}, rd w S x cs → cs.length = size
 pos : 0 < size
 flat : wraps = false → size = 1
 one : ∀ {w S x cs}, rd w S x cs → ∀ u ∈ cs, u.oneCell' = true
 keep : ∀ {w w' : World} {S S' : Nat → Prop} {x cs}, (∀ p : Addr, S p.block → p.block < w.heap.size → w'.cell? p = w.cell? p) → (∀ b, S b → S' b) → rd w S x cs → rd w' S' x cs
def Vl {α : Type} [Dat α] (w : World) (S : Nat → Prop) (x : α) (v : Value) : Prop :=
 ∃ cs, Dat.rd w S x cs ∧ v = if Dat.wraps α then .agg cs.toArray else cs.headD undef
def Els {α : Type} [Dat α] (w : World) (S : Nat → Prop) (xs : List α) (A : Option Addr) : Prop :=
 xs ≠ [] → ∃ b o, A = some ⟨b, o, none⟩ ∧ S b ∧ ∀ i x, xs[i]? = some x → ∃ cs, Dat.rd w S x cs ∧ At w b (o + i * Dat.size α) cs
section
variable {w w' : World} {S S' : Nat → Prop} {b o : Nat}
theorem At.lt {cs : List Value} (h : At w b o cs) (hl : 0 < cs.length) : b < w.heap.size := by
 have h0 := h 0 cs[0] (List.getElem?_eq_getElem hl)
 exact World.block_lt_of_cell? w _ h0
theorem At.keep {cs : List Value} (h : At w b o cs) (hk : ∀ p : Addr, p.block = b → w'.cell? p = w.cell? p) : At w' b o cs :=
 fun j u hu => (hk _ rfl).trans (h j u hu)
theorem At.c0 {v : Value} {l : List Value} (h : At w b o (v :: l)) : w.cell? ⟨b, o, none⟩ = some v := by simpa using h 0 v rfl
theorem At.c1 {v0 v : Value} {l : List Value} (h : At w b o (v0 :: v :: l)) : w.cell? ⟨b, o + 1, none⟩ = some v := by simpa using h 1 v rfl
theorem At.c2 {v0 v1 v : Value} {l : List Value} (h : At w b o (v0 :: v1 :: v :: l)) : w.cell? ⟨b, o + 2, none⟩ = some v := by simpa using h 2 v rfl
theorem At.c3 {v0 v1 v2 v : Value} {l : List Value} (h : At w b o (v0 :: v1 :: v2 :: v :: l)) : w.cell? ⟨b, o + 3, none⟩ = some v := by simpa using h 3 v rfl
theorem At.c4 {v0 v1 v2 v3 v : Value} {l : List Value} (h : At w b o (v0 :: v1 :: v2 :: v3 :: v :: l)) : w.cell? ⟨b, o + 4, none⟩ = some v := by simpa using h 4 v rfl
theorem At.d2 {v0 v1 v : Value} {l : List Value} (h : At w b o (v0 :: v1 :: v :: l)) : w.cell? ⟨b, o + 1 + 1, none⟩ = some v := h.c2
theorem At.d3 {v0 v1 v2 v : Value} {l : List Value} (h : At w b o (v0 :: v1 :: v2 :: v :: l)) : w.cell? ⟨b, o + 1 + 1 + 1, none⟩ = some v := h.c3
theorem Vl.keep {α : Type} [Dat α] {x : α} {v : Value} (h : Vl w S x v) (hk : ∀ p : Addr, S p.block → p.block < w.heap.size → w'.cell? p = w.cell? p) (hS : ∀ b, S b → S' b) : Vl w' S' x v := by
 obtain ⟨cs, h1, h2⟩ := h
 exact ⟨cs, Dat.keep hk hS h1, h2⟩
theorem Vl.below {α : Type} [Dat α] {x : α} {v : Value} (h : Vl w S x v) (hb : Below w.heap.size w w') : Vl w' S x v :=
 h.keep (fun _ _ hp => hb.cell hp) (fun _ h => h)
theorem Vl.belowB {α : Type} [Dat α] {x : α} {v : Value} {B : Nat} (h : Vl w S x v) (hb : Below B w w') (hS : ∀ b, S b → b < B) : Vl w' S x v :=
 h.keep (fun _ hs _ => hb.cell (hS _ hs)) (fun _ h => h)
theorem Vl.mono {α : Type} [Dat α] {x : α} {v : Value} (h : Vl w S x v) (hS : ∀ b, S b → S' b) : Vl w S' x v := h.keep (fun _ _ _ => rfl) hS
theorem Els.keep {α : Type} [Dat α] {xs : List α} {A : Option Addr} (h : Els w S xs A) (hk : ∀ p : Addr, S p.block → p.block < w.heap.size → w'.cell? p = w.cell? p) (hS : ∀ b, S b → S' b) : Els w' S' xs A := by
 intro hne
 obtain ⟨b, o, hA, hb, hx⟩ := h hne
 refine ⟨b, o, hA, hS _ hb, fun i x hi => ?_⟩
 obtain ⟨cs, h1, h2⟩ := hx i x hi
 have hlt : b < w.heap.size := h2.lt (by rw [Dat.len h1]; exact Dat.pos)
 exact ⟨cs, Dat.keep hk hS h1, h2.keep fun p hp => hk p (hp ▸ hb) (hp ▸ hlt)⟩
theorem Els.below {α : Type} [Dat α] {xs : List α} {A : Option Addr} (h : Els w S xs A) (hb : Below w.heap.size w w') : Els w' S xs A :=
 h.keep (fun _ _ hp => hb.cell hp) (fun _ h => h)
theorem Els.belowB {α : Type} [Dat α] {xs : List α} {A : Option Addr} {B : Nat} (h : Els w S xs A) (hb : Below B w w') (hS : ∀ b, S b → b < B) : Els w' S xs A :=
 h.keep (fun _ hs _ => hb.cell (hS _ hs)) (fun _ h => h)
theorem Els.at_ {α : Type} [Dat α] {xs : List α} {A : Option Addr} (h : Els w S xs A) {k : Nat} {x : α} (hk : xs[k]? = some x) :
  ∃ b o cs, A = some ⟨b, o, none⟩ ∧ S b ∧ b < w.heap.size ∧ Dat.rd w S x cs ∧ At w b (o + k * Dat.size α) cs := by
 obtain ⟨b, o, hA, hb, hx⟩ := h (by rintro rfl; simp at hk)
 obtain ⟨cs, h1, h2⟩ := hx k x hk
 exact ⟨b, o, cs, hA, hb, h2.lt (by rw [Dat.len h1]; exact Dat.pos), h1, h2⟩
end
instance instDatInt : Dat Int where
 size := 1
 wraps := false
 rd _ _ n cs := cs = [.int .i64 n] ∧ I64 n
 len h := by rw [h.1]; rfl
 pos := by decide
 flat _ := rfl
 one h := by rw [h.1]; intro u hu; simp at hu; subst hu; rfl
 keep _ _ h := h
instance instDatBool : Dat Bool where
 size := 1
 wraps := false
 rd _ _ n cs := cs = [.bool n]
 len h := by rw [h]; rfl
 pos := by decide
 flat _ := rfl
 one h := by rw [h]; intro u hu; simp at hu; subst hu; rfl
 keep _ _ h := h
instance instDatList {α : Type} [Dat α] : Dat (List α) where
 size := 1
 wraps := false
 rd w S xs cs := ∃ A c, cs = [.slice A xs.length c] ∧ xs.length ≤ c ∧ c ≤ maxLen ∧ Els w S xs A
 len h := by obtain ⟨A, c, rfl, _⟩ := h; rfl
 pos := by decide
 flat _ := rfl
 one h := by obtain ⟨A, c, rfl, _⟩ := h; intro u hu; simp at hu; subst hu; rfl
 keep hk hS h := by
  obtain ⟨A, c, h1, h2, h3, h4⟩ := h
  exact ⟨A, c, h1, h2, h3, h4.keep hk hS⟩
section
variable {w w' : World} {S S' : Nat → Prop} {b o : Nat}
theorem Vl.slice {α : Type} [Dat α] {xs : List α} {v : Value} (h : Vl w S xs v) : ∃ A c, v = .slice A xs.length c ∧ xs.length ≤ c ∧ c ≤ 9223372036854775807 ∧ Els w S xs A := by
 obtain ⟨cs, ⟨A, c, rfl, h2, h3, h4⟩, hv⟩ := h
 exact ⟨A, c, hv, h2, by simpa [maxLen] using h3, h4⟩
theorem Vl.of_slice {α : Type} [Dat α] {xs : List α} {A : Option Addr} {n c : Nat} (hn : n = xs.length) (h2 : xs.length ≤ c) (h3 : c ≤ 9223372036854775807) (h : Els w S xs A) : Vl w S xs (.slice A n c) :=
 ⟨_, ⟨A, c, rfl, h2, by simpa [maxLen] using h3, h⟩, by subst hn; rfl⟩
theorem Vl.els {α : Type} [Dat α] {w : World} {S : Nat → Prop} {xs : List α} {A : Option Addr} {n c : Nat} (h : Vl w S xs (.slice A n c)) : n = xs.length ∧ xs.length ≤ c ∧ c ≤ 9223372036854775807 ∧ Els w S xs A := by
 obtain ⟨A', c', e, h1, h2, h3⟩ := h.slice
 injection e with e1 e2 e3
 subst e1; subst e2; subst e3
 exact ⟨rfl, h1, h2, h3⟩
theorem Vl.nil {α : Type} [Dat α] : Vl w S ([] : List α) (.slice none 0 0) := Vl.of_slice rfl (by simp) (by omega) (fun h => absurd rfl h)
theorem Vl.int {n : Int} {v : Value} (h : Vl w S n v) : v = .int .i64 n ∧ I64 n := by
 obtain ⟨cs, ⟨rfl, h1⟩, hv⟩ := h
 exact ⟨hv, h1⟩
theorem Vl.of_int {n : Int} (h : I64 n) : Vl w S n (.int .i64 n) := ⟨[.int .i64 n], ⟨rfl, h⟩, rfl⟩
theorem Vl.bool {n : Bool} {v : Value} (h : Vl w S n v) : v = .bool n := by
 obtain ⟨cs, rfl, hv⟩ := h
 exact hv
theorem Vl.of_bool (n : Bool) : Vl w S n (.bool n) := ⟨[.bool n], rfl, rfl⟩
theorem rd_slice {α : Type} [Dat α] {xs : List α} {cs : List Value} (h : Dat.rd w S xs cs) : ∃ v, cs = [v] ∧ Vl w S xs v := by
 obtain ⟨A, c, rfl, h2, h3, h4⟩ := h
 exact ⟨_, rfl, _, ⟨A, c, rfl, h2, h3, h4⟩, rfl⟩
theorem rd_of_slice {α : Type} [Dat α] {xs : List α} {v : Value} (h : Vl w S xs v) : Dat.rd w S xs [v] := by
 obtain ⟨cs, ⟨A, c, rfl, h2, h3, h4⟩, hv⟩ := h
 exact ⟨A, c, by rw [hv]; rfl, h2, h3, h4⟩
end
def OwnT (S : Nat → Prop) (base : Nat) (v : Value) (w : World) (b : Nat) : Prop := (S b ∨ base ≤ b) ∧ v.ownBlock ≠ some b ∧ b < w.heap.size
def Own {α : Type} [Dat α] (w : World) (S : Nat → Prop) (base : Nat) (e : TypeId) (v : Value) (xs : List α) : Prop :=
 ∃ css : List (List Value), w.ownsRow base e (Dat.size α) v xs.length css.flatten ∧ css.length = xs.length ∧
  ∀ (i : Nat) (x : α) (cs : List Value), xs[i]? = some x → css[i]? = some cs → Dat.rd w (OwnT S base v w) x cs
theorem Own.nil {α : Type} [Dat α] (w : World) (S : Nat → Prop) (base : Nat) (e : TypeId) : Own w S base e (.slice none 0 0) ([] : List α) :=
 ⟨[], World.ownsRow_nil w base e _, rfl, fun i x cs h => by simp at h⟩
theorem flat_get {size : Nat} : ∀ (css : List (List Value)) (_ : ∀ cs ∈ css, cs.length = size) (i j : Nat) (cs : List Value) (u : Value), css[i]? = some cs → cs[j]? = some u → css.flatten[i * size + j]? = some u
 | [], _, i, j, cs, u, h, _ => by simp at h
 | c :: css, hl, 0, j, cs, u, h, hu => by
  simp at h
  subst h
  have hj := (List.getElem?_eq_some_iff.1 hu).1
  simp only [List.flatten_cons, Nat.zero_mul, Nat.zero_add]
  rw [List.getElem?_append_left hj]
  exact hu
 | c :: css, hl, i + 1, j, cs, u, h, hu => by
  have hc : c.length = size := hl c (by simp)
  have ih := flat_get css (fun cs hcs => hl cs (by simp [hcs])) i j cs u (by simpa using h) hu
  simp only [List.flatten_cons]
  rw [List.getElem?_append_right (by rw [hc, Nat.add_mul]; omega), hc, Nat.add_mul]
  rw [show i * size + 1 * size + j - size = i * size + j from by omega]
  exact ih
section
variable {w w' : World} {S S' : Nat → Prop} {base : Nat} {e : TypeId} {v : Value} {α : Type} [Dat α] {xs : List α}
theorem Own.block (h : Own w S base e v xs) : ∀ k, v.ownBlock = some k → base ≤ k ∧ k < w.heap.size := by
 obtain ⟨css, h1, _⟩ := h
 exact h1.lt
theorem Own.form (h : Own w S base e v xs) : ∃ A c, v = .slice A xs.length c ∧ xs.length ≤ c ∧ c ≤ 9223372036854775807 ∧ (xs = [] ∨ ∃ g, A = some ⟨g, 0, none⟩ ∧ base ≤ g ∧ g < w.heap.size) := by
 obtain ⟨css, h1, h2, _⟩ := h
 rcases h1.2 with ⟨rfl, hn⟩ | ⟨g, cap, cur, rfl, hg, hh, hnc, hcm, _⟩
 ·refine ⟨none, 0, by rw [hn], by omega, by omega, .inl (List.eq_nil_of_length_eq_zero hn)⟩
 ·exact ⟨_, cap, rfl, hnc, by simpa [maxLen] using hcm, .inr ⟨g, rfl, hg, (Array.getElem?_eq_some_iff.1 hh).1⟩⟩
theorem Own.vl (h : Own w S base e v xs) : Vl w (fun b => (S b ∨ base ≤ b) ∧ b < w.heap.size) xs v := by
 obtain ⟨css, h1, h2, h3⟩ := h
 have hcl : ∀ cs ∈ css, cs.length = Dat.size α := by
  intro cs hcs
  obtain ⟨i, hi, rfl⟩ := List.getElem_of_mem hcs
  have hx : xs[i]? = some (xs[i]'(by omega)) := List.getElem?_eq_getElem (by omega)
  exact Dat.len (h3 i _ _ hx (List.getElem?_eq_getElem hi))
 rcases h1.2 with ⟨rfl, hn⟩ | ⟨g, cap, cur, rfl, hg, hh, hnc, hcm, _⟩
 ·have : xs = [] := List.eq_nil_of_length_eq_zero hn
  subst this
  exact Vl.nil
 ·refine Vl.of_slice rfl hnc (by simpa [maxLen] using hcm) fun _ => ⟨g, 0, rfl, ⟨.inr hg, (Array.getElem?_eq_some_iff.1 hh).1⟩, fun i x hi => ?_⟩
  have hil : i < css.length := by have := (List.getElem?_eq_some_iff.1 hi).1; omega
  have hci : css[i]? = some css[i] := List.getElem?_eq_getElem hil
  refine ⟨css[i], Dat.keep (fun _ _ _ => rfl) (fun b hb => ⟨hb.1, hb.2.2⟩) (h3 i x _ hi hci), fun j u hu => ?_⟩
  have hf := flat_get css hcl i j _ u hci hu
  have hc := h1.cells (g := g) rfl _ _ hf
  have hadd : (⟨g, 0, none⟩ : Addr).add (i * Dat.size α + j) = ⟨g, 0 + i * Dat.size α + j, none⟩ := by
   unfold Addr.add
   split
   ·rename_i h0; simp only [Nat.zero_add, h0]
   ·simp only [Nat.zero_add]
  rw [← hadd]
  exact hc
theorem Own.at_ (h : Own w S base e v xs) {k : Nat} {x : α} (hk : xs[k]? = some x) : ∃ g c cs, v = .slice (some ⟨g, 0, none⟩) xs.length c ∧ base ≤ g ∧ g < w.heap.size ∧ Dat.rd w (OwnT S base v w) x cs ∧ At w g (k * Dat.size α) cs := by
 obtain ⟨css, h1, h2, h3⟩ := h
 have hcl : ∀ cs ∈ css, cs.length = Dat.size α := by
  intro cs hcs
  obtain ⟨i, hi, rfl⟩ := List.getElem_of_mem hcs
  have hx : xs[i]? = some (xs[i]'(by omega)) := List.getElem?_eq_getElem (by omega)
  exact Dat.len (h3 i _ _ hx (List.getElem?_eq_getElem hi))
 rcases h1.2 with ⟨rfl, hn⟩ | ⟨g, cap, cur, rfl, hg, hh, hnc, hcm, _⟩
 ·have : xs = [] := List.eq_nil_of_length_eq_zero hn
  subst this
  simp at hk
 ·have hil : k < css.length := by have := (List.getElem?_eq_some_iff.1 hk).1; omega
  have hci : css[k]? = some css[k] := List.getElem?_eq_getElem hil
  refine ⟨g, cap, css[k], rfl, hg, (Array.getElem?_eq_some_iff.1 hh).1, h3 k x _ hk hci, fun j u hu => ?_⟩
  have hf := flat_get css hcl k j _ u hci hu
  have hc := h1.cells (g := g) rfl _ _ hf
  have hadd : (⟨g, 0, none⟩ : Addr).add (k * Dat.size α + j) = ⟨g, k * Dat.size α + j, none⟩ := by
   unfold Addr.add
   split
   ·rename_i h0; simp only [h0]
   ·simp only [Nat.zero_add]
  rw [← hadd]
  exact hc
theorem Own.grown {row : Option Nat} (h : Own w S base e v xs) (hg : w.grownBy w' row) (hne : ∀ k, row = some k → v.ownBlock ≠ some k ∧ ¬ (S k ∨ base ≤ k)) : Own w' S base e v xs := by
 obtain ⟨css, h1, h2, h3⟩ := h
 refine ⟨css, h1.kept hg ?_, h2, fun i x cs hi hc => Dat.keep (fun p hp hlt => ?_) (fun b hb => ⟨hb.1, hb.2.1, Nat.lt_of_lt_of_le hb.2.2 hg.size⟩) (h3 i x cs hi hc)⟩
 ·cases hv : v.ownBlock with
  | none => exact .inl rfl
  | some k => exact .inr (fun e => (hne k e.symm).1 hv)
 ·exact World.cell?_of_block (hg.block p.block hlt (fun e => (hne _ e.symm).2 hp.1))
theorem Own.below {B : Nat} (h : Own w S base e v xs) (hb : Below B w w') (hB : w.heap.size ≤ B) : Own w' S base e v xs := by
 obtain ⟨css, h1, h2, h3⟩ := h
 refine ⟨css, h1.kept (row := none) ⟨hb.os, hb.tape, hb.output, hb.size, fun k hk _ => hb.block k (by omega)⟩ ?_, h2, fun i x cs hi hc => Dat.keep (fun p hp hlt => hb.cell (by omega)) (fun b hb' => ⟨hb'.1, hb'.2.1, Nat.lt_of_lt_of_le hb'.2.2 hb.size⟩) (h3 i x cs hi hc)⟩
 cases hv : v.ownBlock <;> simp
theorem Own.alloc (h : Own w S base e v xs) (o : Obj) : Own (w.alloc o) S base e v xs := h.below ((Below.refl w.heap.size w).alloc (Nat.le_refl _) o) (Nat.le_refl _)
theorem Own.drew (h : Own w S base e v xs) : Own w.drew S base e v xs := h.below ((Below.refl w.heap.size w).drew) (Nat.le_refl _)
theorem Own.setCell (h : Own w S base e v xs) {p : Addr} (hp : v.ownBlock ≠ some p.block) (hS : ¬ (S p.block ∨ base ≤ p.block)) (u : Value) : Own (w.setCell p u) S base e v xs :=
 h.grown (row := some p.block) ⟨rfl, rfl, rfl, by simp [World.setCell], fun k _ hk => Below.heap_setCell _ _ _ _ (fun e => hk (by rw [e]))⟩ (fun k hk => by cases hk; exact ⟨hp, hS⟩)
end
def ElemT (P : Program) (α : Type) [Dat α] (t e : TypeId) (bytes : Nat) : Prop :=
 ∃ i z, P.underlying t = some (.slice e) ∧ P.info? e = some i ∧ i.zero = some z ∧ i.size = Dat.size α ∧ i.bytes = bytes ∧ z.cells.size = Dat.size α
section
variable {P : Program} {w : World} {S : Nat → Prop} {base : Nat} {α : Type} [Dat α]
theorem own_snoc {e : TypeId} {v v' : Value} {w' : World} {xs : List α} {x : α} {css : List (List Value)} {cs : List Value}
  (h2 : css.length = xs.length) (h3 : ∀ (i : Nat) (x : α) (cs : List Value), xs[i]? = some x → css[i]? = some cs → Dat.rd w (OwnT S base v w) x cs)
  (hrd : Dat.rd w (OwnT S base v w) x cs) (hown : w'.ownsRow base e (Dat.size α) v' (xs.length + 1) (css.flatten ++ cs))
  (hg : w.grownBy w' v.ownBlock) (hat : v'.ownBlock = v.ownBlock ∨ v'.ownBlock = some w.heap.size) : Own w' S base e v' (xs ++ [x]) := by
 have hkeep : ∀ {y : α} {ds : List Value}, Dat.rd w (OwnT S base v w) y ds → Dat.rd w' (OwnT S base v' w') y ds := fun hy =>
  Dat.keep (fun p hp hlt => World.cell?_of_block (hg.block p.block hlt (fun e => hp.2.1 e.symm))) (fun b hb => ⟨hb.1, by
   rcases hat with e | e
   ·rw [e]; exact hb.2.1
   ·rw [e]; intro h; injection h with h; have := hb.2.2; omega, Nat.lt_of_lt_of_le hb.2.2 hg.size⟩) hy
 refine ⟨css ++ [cs], by simpa using hown, by simp [h2], fun i y ds hi hd => ?_⟩
 rcases Nat.lt_or_ge i xs.length with hlt | hge
 ·rw [List.getElem?_append_left hlt] at hi
  rw [List.getElem?_append_left (by omega)] at hd
  exact hkeep (h3 i y ds hi hd)
 ·have hi' : i = xs.length := by
   have := (List.getElem?_eq_some_iff.1 hi).1
   simp at this; omega
  subst hi'
  simp at hi
  rw [List.getElem?_append_right (by omega)] at hd
  simp [h2] at hd
  subst hi; subst hd
  exact hkeep hrd
theorem run_own1 {t ty e : TypeId} {bytes : Nat} (hT : ElemT P α t e bytes) {v : Value} {xs : List α} {x : α} {cs : List Value} {g c : Nat} (hown : Own w S base e v xs)
  (hat : At w g 0 cs) (hrd : Dat.rd w (OwnT S base v w) x cs) (hlen : (xs.length + 1) * bytes ≤ 140737488355328) (hmax : xs.length + 1 ≤ 9223372036854775807) (hbase : base ≤ w.heap.size) :
  ∃ v' w', (Builtin.append_ #[t, t] ty #[v, .slice (some ⟨g, 0, none⟩) 1 c]).run P w = .ok v' w' ∧ Own w' S base e v' (xs ++ [x]) ∧ w.grownBy w' v.ownBlock ∧ (v'.ownBlock = v.ownBlock ∨ v'.ownBlock = some w.heap.size) := by
 obtain ⟨i, z, ht, hi, hz, hsize, hby, hzs⟩ := hT
 obtain ⟨css, h1, h2, h3⟩ := hown
 have hcl := Dat.len hrd
 obtain ⟨v', w', hr, ho, hg, _, h5⟩ := run_append_own_at (P := P) w base t ty e i z (Dat.size α) bytes ht hi hz hsize hby hzs Dat.pos v xs.length css.flatten h1 ⟨g, 0, none⟩ 1 c cs (by omega)
  (by intro j u hu; have h := hat j u hu; have hadd : (⟨g, 0, none⟩ : Addr).add j = ⟨g, 0 + j, none⟩ := by unfold Addr.add; split <;> simp_all
      rw [hadd]; exact h) (Dat.one hrd) (by simpa [maxLen] using hmax) hlen hbase
 exact ⟨v', w', hr, own_snoc h2 h3 hrd ho hg h5, hg, h5⟩
end
section
variable {P : Program} (w : World) {S : Nat → Prop} {base : Nat} {α : Type} [Dat α]
theorem wp_own1 {o : Oper} {a : Act} {K : Act → World → Prop} {Q : Exit → Act → World → Prop} (s xo : Operand) {t e : TypeId} {bytes : Nat} (hT : ElemT P α t e bytes)
  (ho : o.op = .call { callee := .builtin .append, args := #[s, xo], argTypes := #[t, t] })
  {v : Value} {xs : List α} (hs : a.eval s = v) (hown : Own w S base e v xs) (x : α) (cs : List Value) {g c : Nat} (hx : a.eval xo = .slice (some ⟨g, 0, none⟩) 1 c)
  (hat : At w g 0 cs) (hrd : Dat.rd w (OwnT S base v w) x cs) (hlen : (xs.length + 1) * bytes ≤ 140737488355328) (hmax : xs.length + 1 ≤ 9223372036854775807) (hbase : base ≤ w.heap.size)
  (h : ∀ v' w', Own w' S base e v' (xs ++ [x]) → w.grownBy w' v.ownBlock → (v'.ownBlock = v.ownBlock ∨ v'.ownBlock = some w.heap.size) → K (a.put o.dst v') w') : o.wp P a w K Q := by
 obtain ⟨v', w', hrun, h2, h3, h4⟩ := run_own1 (ty := o.type) (c := c) hT hown hat hrd hlen hmax hbase
 unfold Oper.wp execOp
 simp only [ho, resolve, invoke, builtin, Sem.run_bind, Sem.run_pure, Result.andThen_ok, List.map_toArray, List.map_cons, List.map_nil, hs, hx, hrun]
 exact h v' w' h2 h3 h4
theorem wpList_own1 {ops : Array Oper} {rest : List Oper} {o : Oper} {a : Act} {Q : Exit → Act → World → Prop} (hgd : o.guard = none) (s xo : Operand) {t e : TypeId} {bytes : Nat} (hT : ElemT P α t e bytes)
  (ho : o.op = .call { callee := .builtin .append, args := #[s, xo], argTypes := #[t, t] })
  {v : Value} {xs : List α} (hs : a.eval s = v) (hown : Own w S base e v xs) (x : α) (cs : List Value) {g c : Nat} (hx : a.eval xo = .slice (some ⟨g, 0, none⟩) 1 c)
  (hat : At w g 0 cs) (hrd : Dat.rd w (OwnT S base v w) x cs) (hlen : (xs.length + 1) * bytes ≤ 140737488355328) (hmax : xs.length + 1 ≤ 9223372036854775807) (hbase : base ≤ w.heap.size)
  (h : ∀ v' w', Own w' S base e v' (xs ++ [x]) → w.grownBy w' v.ownBlock → (v'.ownBlock = v.ownBlock ∨ v'.ownBlock = some w.heap.size) → wpList P ops Q rest (a.put o.dst v') w') : wpList P ops Q (o :: rest) a w :=
 wpList_plain hgd fun _ hK => wp_own1 w s xo hT ho hs hown x cs hx hat hrd hlen hmax hbase fun v' w' h2 h3 h4 => hK _ _ (h v' w' h2 h3 h4)
theorem step_own1 {ops : Array Oper} {o : Oper} {a : Act} {K : Act → World → Prop} {Q : Exit → Act → World → Prop} {E : Prop} (hgd : o.guard = none) (s xo : Operand) {t e : TypeId} {bytes : Nat} (hT : ElemT P α t e bytes)
  (ho : o.op = .call { callee := .builtin .append, args := #[s, xo], argTypes := #[t, t] })
  {v : Value} {xs : List α} (hs : a.eval s = v) (hown : Own w S base e v xs) (x : α) (cs : List Value) {g c : Nat} (hx : a.eval xo = .slice (some ⟨g, 0, none⟩) 1 c)
  (hat : At w g 0 cs) (hrd : Dat.rd w (OwnT S base v w) x cs) (hlen : (xs.length + 1) * bytes ≤ 140737488355328) (hmax : xs.length + 1 ≤ 9223372036854775807) (hbase : base ≤ w.heap.size)
  (h : ∀ v' w', Own w' S base e v' (xs ++ [x]) → w.grownBy w' v.ownBlock → (v'.ownBlock = v.ownBlock ∨ v'.ownBlock = some w.heap.size) → K (a.put o.dst v') w') :
  if Region.wanted o (yielded ops a.tmps) = true then Oper.wp P o a w K Q else E := by
 have hw : Region.wanted o (yielded ops a.tmps) = true := by simp [Region.wanted, hgd]
 rw [if_pos hw]
 exact wp_own1 w s xo hT ho hs hown x cs hx hat hrd hlen hmax hbase h
end
theorem bcell {W w1 : World} {n : Nat} (hb : Below n W w1) : (∀ b o, b < n → w1.cell? ⟨b, o, none⟩ = W.cell? ⟨b, o, none⟩) ∧ (∀ b o, b < n → w1.frozen? ⟨b, o, none⟩ = W.frozen? ⟨b, o, none⟩) :=
 ⟨fun b o h => hb.cell (p := ⟨b, o, none⟩) h, fun b o h => hb.frozen (p := ⟨b, o, none⟩) h⟩
theorem bdrewN {B n : Nat} {a w : World} (h : Below B a w) : Below B a (w.drewN n) := ⟨h.os, h.tape, h.output, h.size, h.block⟩
def Blk' (w : World) (g : Nat) (t : TypeId) (cs : Array Value) : Prop := w.heap[g]? = some (.cells cs t (0, 0))
section
variable {w w' : World} {g : Nat} {t : TypeId} {cs : Array Value}
theorem Blk'.lt (h : Blk' w g t cs) : g < w.heap.size := by
 rcases Nat.lt_or_ge g w.heap.size with hlt | hge
 ·exact hlt
 ·unfold Blk' at h; rw [Array.getElem?_eq_none hge] at h; cases h
theorem Blk'.cell (h : Blk' w g t cs) (i : Nat) : w.cell? ⟨g, i, none⟩ = cs[i]? := cell_of_row w g i cs t (0, 0) h
theorem Blk'.frozen (h : Blk' w g t cs) (i : Nat) : w.frozen? ⟨g, i, none⟩ = false := by
 unfold Blk' at h
 simp [World.frozen?, h]
theorem Blk'.new (w : World) (t : TypeId) (cs : Array Value) : Blk' (w.alloc (.cells cs t)) w.heap.size t cs := heap_alloc_new w _
theorem Blk'.new' (w : World) (t : TypeId) (cs : Array Value) (h : g = w.heap.size) : Blk' (w.alloc (.cells cs t)) g t cs := by subst h; exact heap_alloc_new w _
theorem Blk'.drew (h : Blk' w g t cs) : Blk' w.drew g t cs := h
theorem Blk'.drewN (h : Blk' w g t cs) (n : Nat) : Blk' (w.drewN n) g t cs := h
theorem Blk'.alloc (h : Blk' w g t cs) (o : Obj) : Blk' (w.alloc o) g t cs := (Below.heap_alloc w o g h.lt).trans h
theorem Blk'.set_ (h : Blk' w g t cs) (i : Nat) (u : Value) : Blk' (w.setCell ⟨g, i, none⟩ u) g t (cs.setIfInBounds i u) := by
 unfold Blk' at h ⊢
 simp [World.setCell, Array.getElem?_modify, h]
theorem Blk'.far (h : Blk' w g t cs) {p : Addr} (hp : g ≠ p.block) (u : Value) : Blk' (w.setCell p u) g t cs := (Below.heap_setCell w p u g hp).trans h
theorem Blk'.below {B : Nat} (h : Blk' w g t cs) (hb : Below B w w') (hg : g < B) : Blk' w' g t cs := (hb.block g hg).trans h
theorem Blk'.grown {row : Option Nat} (h : Blk' w g t cs) (hb : w.grownBy w' row) (hg : some g ≠ row) : Blk' w' g t cs := (hb.block g h.lt hg).trans h
theorem only_drew {row : Option Nat} {a : World} (h : a.grownBy w row) : a.grownBy w.drew row := ⟨h.os, h.tape, h.output, h.size, h.block⟩
theorem only_drewN {row : Option Nat} {a : World} (h : a.grownBy w row) (n : Nat) : a.grownBy (w.drewN n) row := ⟨h.os, h.tape, h.output, h.size, h.block⟩
theorem only_alloc {row : Option Nat} {a : World} (h : a.grownBy w row) (o : Obj) : a.grownBy (w.alloc o) row :=
 ⟨h.os, h.tape, h.output, Nat.le_trans h.size (by simp), fun i hi hne => (Below.heap_alloc w o i (Nat.lt_of_lt_of_le hi h.size)).trans (h.block i hi hne)⟩
theorem only_setCell {row : Option Nat} {a : World} (h : a.grownBy w row) {p : Addr} (hp : row = some p.block ∨ a.heap.size ≤ p.block) (u : Value) : a.grownBy (w.setCell p u) row :=
 ⟨h.os, h.tape, h.output, by simpa [World.setCell] using h.size, fun i hi hne => (Below.heap_setCell w p u i (by
  rintro rfl
  rcases hp with hp | hp
  ·exact hne (by rw [hp])
  ·omega)).trans (h.block i hi hne)⟩
theorem only_then {row row' : Option Nat} {a : World} (h : a.grownBy w row) (k : w.grownBy w' row') (hr : row' = row ∨ ∀ i, row' = some i → a.heap.size ≤ i) : a.grownBy w' row :=
 ⟨k.os.trans h.os, k.tape.trans h.tape, k.output.trans h.output, Nat.le_trans h.size k.size, fun i hi hne => (k.block i (Nat.lt_of_lt_of_le hi h.size) (by
  rcases hr with rfl | hr
  ·exact hne
  ·intro e; have := hr i e.symm; omega)).trans (h.block i hi hne)⟩
theorem only_below {row : Option Nat} {a : World} {B : Nat} (h : a.grownBy w row) (k : Below B w w') (hB : a.heap.size ≤ B) : a.grownBy w' row :=
 ⟨k.os.trans h.os, k.tape.trans h.tape, k.output.trans h.output, Nat.le_trans h.size k.size, fun i hi hne => (k.block i (by omega)).trans (h.block i hi hne)⟩
end
theorem bundrew {B : Nat} {a w : World} (h : Below B a.drew w) : Below B a w := ⟨h.os, h.tape, h.output, h.size, h.block⟩
theorem bundrewN {B n : Nat} {a w : World} (h : Below B (a.drewN n) w) : Below B a w := ⟨h.os, h.tape, h.output, h.size, h.block⟩
theorem bthen {B n : Nat} {a w w' : World} (h : Below B a w) (k : Below n w w') (hn : B ≤ n) : Below B a w' := h.trans (k.mono hn)
theorem bgrown {B : Nat} {a w w' : World} {v : Value} {S : Nat → Prop} {base : Nat} {e : TypeId} {α : Type} [Dat α] {xs : List α} (h : Below B a w) (hg : w.grownBy w' v.ownBlock) (hown : Own w S base e v xs) (hB : B ≤ base) (hs : B ≤ w.heap.size) : Below B a w' :=
 h.grown hg hs (fun k hk => Nat.le_trans hB (hown.block k hk).1)
end Go.Proofs.Ytjdojogjogenkaa
/- The program's data as plain Lean data, and how they read in memory. -/
namespace Go.Proofs.Ytjdojogjogenkaa
open Go.RowKit
structure Sym where
 term : Bool
 n : Int
 deriving DecidableEq, Repr
structure Rule where
 left : Int
 right : List Sym
 deriving DecidableEq, Repr
structure Gram where
 terms : Int
 nons : Int
 start : Int
 rules : List Rule
 deriving DecidableEq, Repr
inductive Tree where
 | mk (rule term : Int) (kids : List Tree)
def Tree.rule : Tree → Int | ⟨r, _, _⟩ => r
def Tree.term : Tree → Int | ⟨_, t, _⟩ => t
def Tree.kids : Tree → List Tree | ⟨_, _, ks⟩ => ks
instance instDatSym : Dat Sym where
 size := 2
 wraps := true
 rd _ _ s cs := cs = [.bool s.term, .int .i64 s.n] ∧ I64 s.n
 len h := by rw [h.1]; rfl
 pos := by decide
 flat h := by simp at h
 one h := by rw [h.1]; intro u hu; simp at hu; rcases hu with rfl | rfl <;> rfl
 keep _ _ h := h
instance instDatRule : Dat Rule where
 size := 2
 wraps := true
 rd w S r cs := ∃ v, cs = [.int .i64 r.left, v] ∧ I64 r.left ∧ Vl w S r.right v
 len h := by obtain ⟨v, rfl, _⟩ := h; rfl
 pos := by decide
 flat h := by simp at h
 one h := by
  obtain ⟨v, rfl, _, hv⟩ := h
  obtain ⟨A, c, rfl, _⟩ := hv.slice
  intro u hu; simp at hu; rcases hu with rfl | rfl <;> rfl
 keep hk hS h := by obtain ⟨v, h1, h2, h3⟩ := h; exact ⟨v, h1, h2, h3.keep hk hS⟩
instance instDatGram : Dat Gram where
 size := 4
 wraps := true
 rd w S g cs := ∃ v, cs = [.int .i64 g.terms, .int .i64 g.nons, .int .i64 g.start, v] ∧ I64 g.terms ∧ I64 g.nons ∧ I64 g.start ∧ Vl w S g.rules v
 len h := by obtain ⟨v, rfl, _⟩ := h; rfl
 pos := by decide
 flat h := by simp at h
 one h := by
  obtain ⟨v, rfl, _, _, _, hv⟩ := h
  obtain ⟨A, c, rfl, _⟩ := hv.slice
  intro u hu; simp at hu; rcases hu with rfl | rfl | rfl | rfl <;> rfl
 keep hk hS h := by obtain ⟨v, h1, h2, h3, h4, h5⟩ := h; exact ⟨v, h1, h2, h3, h4, h5.keep hk hS⟩
mutual
def rdT (w : World) (S : Nat → Prop) : Tree → List Value → Prop
 | ⟨r, t, ks⟩, cs => I64 r ∧ I64 t ∧ ∃ A c, cs = [.int .i64 r, .int .i64 t, .slice A ks.length c] ∧ ks.length ≤ c ∧ c ≤ maxLen ∧ (ks ≠ [] → ∃ b o, A = some ⟨b, o, none⟩ ∧ S b ∧ rdTs w S ks b o)
def rdTs (w : World) (S : Nat → Prop) : List Tree → Nat → Nat → Prop
 | [], _, _ => True
 | k :: ks, b, o => (∃ cs, rdT w S k cs ∧ At w b o cs) ∧ rdTs w S ks b (o + 3)
end
theorem rdT_len {w : World} {S : Nat → Prop} {t : Tree} {cs : List Value} (h : rdT w S t cs) : cs.length = 3 := by
 cases t with
 | mk r t ks => unfold rdT at h; obtain ⟨_, _, A, c, rfl, _⟩ := h; rfl
theorem rdTs_iff {w : World} {S : Nat → Prop} : ∀ (ks : List Tree) (b o : Nat), rdTs w S ks b o ↔ ∀ (i : Nat) (x : Tree), ks[i]? = some x → ∃ cs, rdT w S x cs ∧ At w b (o + i * 3) cs
 | [], b, o => by simp [rdTs]
 | k :: ks, b, o => by
  rw [rdTs, rdTs_iff ks]
  constructor
  ·rintro ⟨h1, h2⟩ i x hi
   match i with
   | 0 => simp at hi; subst hi; simpa using h1
   | i + 1 =>
    have := h2 i x (by simpa using hi)
    rw [show o + (i + 1) * 3 = o + 3 + i * 3 from by omega]
    exact this
  ·intro h
   refine ⟨by simpa using h 0 k rfl, fun i x hi => ?_⟩
   have := h (i + 1) x (by simpa using hi)
   rw [show o + 3 + i * 3 = o + (i + 1) * 3 from by omega]
   exact this
mutual
theorem rdT_keep {w w' : World} {S S' : Nat → Prop} (hk : ∀ p : Addr, S p.block → p.block < w.heap.size → w'.cell? p = w.cell? p) (hS : ∀ b, S b → S' b) : ∀ (t : Tree) (cs : List Value), rdT w S t cs → rdT w' S' t cs
 | ⟨r, t, ks⟩, cs, h => by
  unfold rdT at h ⊢
  obtain ⟨h1, h2, A, c, h3, h4, h5, h6⟩ := h
  refine ⟨h1, h2, A, c, h3, h4, h5, fun hne => ?_⟩
  obtain ⟨b, o, hA, hb, hks⟩ := h6 hne
  exact ⟨b, o, hA, hS _ hb, rdTs_keep hk hS ks b o hb hks⟩
theorem rdTs_keep {w w' : World} {S S' : Nat → Prop} (hk : ∀ p : Addr, S p.block → p.block < w.heap.size → w'.cell? p = w.cell? p) (hS : ∀ b, S b → S' b) : ∀ (ks : List Tree) (b o : Nat), S b → rdTs w S ks b o → rdTs w' S' ks b o
 | [], _, _, _, _ => by simp [rdTs]
 | k :: ks, b, o, hb, h => by
  rw [rdTs] at h ⊢
  obtain ⟨⟨cs, h1, h2⟩, h3⟩ := h
  have hlt : b < w.heap.size := h2.lt (by rw [rdT_len h1]; decide)
  exact ⟨⟨cs, rdT_keep hk hS k cs h1, h2.keep fun p hp => hk p (hp ▸ hb) (hp ▸ hlt)⟩, rdTs_keep hk hS ks b (o + 3) hb h3⟩
end
instance instDatTree : Dat Tree where
 size := 3
 wraps := true
 rd := rdT
 len := rdT_len
 pos := by decide
 flat h := by simp at h
 one {w S t cs} h := by
  cases t with
  | mk r t ks =>
   unfold rdT at h; obtain ⟨_, _, A, c, rfl, _⟩ := h
   intro u hu; simp at hu; rcases hu with rfl | rfl | rfl <;> rfl
 keep hk hS h := rdT_keep hk hS _ _ h
theorem rd_tree {w : World} {S : Nat → Prop} {t : Tree} {cs : List Value} : Dat.rd w S t cs ↔ ∃ v, cs = [.int .i64 t.rule, .int .i64 t.term, v] ∧ I64 t.rule ∧ I64 t.term ∧ Vl w S t.kids v := by
 cases t with
 | mk r t ks =>
  show rdT w S _ cs ↔ _
  unfold rdT
  constructor
  ·rintro ⟨h1, h2, A, c, rfl, h4, h5, h6⟩
   refine ⟨_, rfl, h1, h2, Vl.of_slice rfl h4 (by simpa [maxLen] using h5) fun hne => ?_⟩
   obtain ⟨b, o, hA, hb, hks⟩ := h6 hne
   exact ⟨b, o, hA, hb, (rdTs_iff _ _ _).1 hks⟩
  ·rintro ⟨v, rfl, h1, h2, hv⟩
   obtain ⟨A, c, rfl, h4, h5, h6⟩ := hv.slice
   refine ⟨h1, h2, A, c, rfl, h4, by simpa [maxLen] using h5, fun hne => ?_⟩
   obtain ⟨b, o, hA, hb, hks⟩ := h6 hne
   exact ⟨b, o, hA, hb, (rdTs_iff _ _ _).2 hks⟩
section
variable {w : World} {S : Nat → Prop}
theorem Vl.sym {s : Sym} {v : Value} (h : Vl w S s v) : v = .agg #[.bool s.term, .int .i64 s.n] ∧ I64 s.n := by
 obtain ⟨cs, ⟨rfl, h1⟩, hv⟩ := h
 exact ⟨hv, h1⟩
theorem Vl.of_sym {s : Sym} (h : I64 s.n) : Vl w S s (.agg #[.bool s.term, .int .i64 s.n]) := ⟨_, ⟨rfl, h⟩, rfl⟩
theorem Vl.rule {r : Rule} {v : Value} (h : Vl w S r v) : ∃ s, v = .agg #[.int .i64 r.left, s] ∧ I64 r.left ∧ Vl w S r.right s := by
 obtain ⟨cs, ⟨s, rfl, h1, h2⟩, hv⟩ := h
 exact ⟨s, hv, h1, h2⟩
theorem Vl.of_rule {r : Rule} {s : Value} (h1 : I64 r.left) (h2 : Vl w S r.right s) : Vl w S r (.agg #[.int .i64 r.left, s]) := ⟨_, ⟨s, rfl, h1, h2⟩, rfl⟩
theorem Vl.gram {g : Gram} {v : Value} (h : Vl w S g v) : ∃ s, v = .agg #[.int .i64 g.terms, .int .i64 g.nons, .int .i64 g.start, s] ∧ I64 g.terms ∧ I64 g.nons ∧ I64 g.start ∧ Vl w S g.rules s := by
 obtain ⟨cs, ⟨s, rfl, h1, h2, h3, h4⟩, hv⟩ := h
 exact ⟨s, hv, h1, h2, h3, h4⟩
theorem Vl.of_gram {g : Gram} {s : Value} (h1 : I64 g.terms) (h2 : I64 g.nons) (h3 : I64 g.start) (h4 : Vl w S g.rules s) : Vl w S g (.agg #[.int .i64 g.terms, .int .i64 g.nons, .int .i64 g.start, s]) := ⟨_, ⟨s, rfl, h1, h2, h3, h4⟩, rfl⟩
theorem Vl.tree {t : Tree} {v : Value} (h : Vl w S t v) : ∃ s, v = .agg #[.int .i64 t.rule, .int .i64 t.term, s] ∧ I64 t.rule ∧ I64 t.term ∧ Vl w S t.kids s := by
 obtain ⟨cs, hr, hv⟩ := h
 obtain ⟨s, rfl, h1, h2, h3⟩ := rd_tree.1 hr
 exact ⟨s, hv, h1, h2, h3⟩
theorem Vl.of_tree {t : Tree} {s : Value} (h1 : I64 t.rule) (h2 : I64 t.term) (h3 : Vl w S t.kids s) : Vl w S t (.agg #[.int .i64 t.rule, .int .i64 t.term, s]) := ⟨_, rd_tree.2 ⟨s, rfl, h1, h2, h3⟩, rfl⟩
end
section
variable {w : World} {S : Nat → Prop} {A : Option Addr} {k : Nat}
theorem Els.int {xs : List Int} {x : Int} (h : Els w S xs A) (hk : xs[k]? = some x) : ∃ b o, A = some ⟨b, o, none⟩ ∧ S b ∧ b < w.heap.size ∧ I64 x ∧ w.cell? ⟨b, o + k, none⟩ = some (.int .i64 x) := by
 obtain ⟨b, o, cs, hA, hS, hb, ⟨rfl, h1⟩, hc⟩ := h.at_ hk
 exact ⟨b, o, hA, hS, hb, h1, by have h := hc.c0; rwa [show o + k * Dat.size Int = o + k from by show o + k * 1 = _; omega] at h⟩
theorem Els.bool {xs : List Bool} {x : Bool} (h : Els w S xs A) (hk : xs[k]? = some x) : ∃ b o, A = some ⟨b, o, none⟩ ∧ S b ∧ b < w.heap.size ∧ w.cell? ⟨b, o + k, none⟩ = some (.bool x) := by
 obtain ⟨b, o, cs, hA, hS, hb, rfl, hc⟩ := h.at_ hk
 exact ⟨b, o, hA, hS, hb, by have h := hc.c0; rwa [show o + k * Dat.size Bool = o + k from by show o + k * 1 = _; omega] at h⟩
theorem Els.list {α : Type} [Dat α] {xs : List (List α)} {x : List α} (h : Els w S xs A) (hk : xs[k]? = some x) : ∃ b o A' c, A = some ⟨b, o, none⟩ ∧ S b ∧ b < w.heap.size ∧ x.length ≤ c ∧ c ≤ 9223372036854775807 ∧ Els w S x A' ∧ w.cell? ⟨b, o + k, none⟩ = some (.slice A' x.length c) := by
 obtain ⟨b, o, cs, hA, hS, hb, ⟨A', c, rfl, h2, h3, h4⟩, hc⟩ := h.at_ hk
 exact ⟨b, o, A', c, hA, hS, hb, h2, by simpa [maxLen] using h3, h4, by have h := hc.c0; rwa [show o + k * Dat.size (List α) = o + k from by show o + k * 1 = _; omega] at h⟩
theorem Els.sym {xs : List Sym} {x : Sym} (h : Els w S xs A) (hk : xs[k]? = some x) :
  ∃ b o, A = some ⟨b, o, none⟩ ∧ S b ∧ b < w.heap.size ∧ I64 x.n ∧ w.cell? ⟨b, o + k * 2, none⟩ = some (.bool x.term) ∧ w.cell? ⟨b, o + k * 2 + 1, none⟩ = some (.int .i64 x.n) := by
 obtain ⟨b, o, cs, hA, hS, hb, ⟨rfl, h1⟩, hc⟩ := h.at_ hk
 exact ⟨b, o, hA, hS, hb, h1, hc.c0, hc.c1⟩
theorem Els.rule {xs : List Rule} {x : Rule} (h : Els w S xs A) (hk : xs[k]? = some x) :
  ∃ b o A' c, A = some ⟨b, o, none⟩ ∧ S b ∧ b < w.heap.size ∧ I64 x.left ∧ x.right.length ≤ c ∧ c ≤ 9223372036854775807 ∧ Els w S x.right A' ∧ w.cell? ⟨b, o + k * 2, none⟩ = some (.int .i64 x.left) ∧ w.cell? ⟨b, o + k * 2 + 1, none⟩ = some (.slice A' x.right.length c) := by
 obtain ⟨b, o, cs, hA, hS, hb, ⟨v, rfl, h1, hv⟩, hc⟩ := h.at_ hk
 obtain ⟨A', c, rfl, h2, h3, h4⟩ := hv.slice
 exact ⟨b, o, A', c, hA, hS, hb, h1, h2, h3, h4, hc.c0, hc.c1⟩
theorem Els.tree {xs : List Tree} {x : Tree} (h : Els w S xs A) (hk : xs[k]? = some x) :
  ∃ b o A' c, A = some ⟨b, o, none⟩ ∧ S b ∧ b < w.heap.size ∧ I64 x.rule ∧ I64 x.term ∧ x.kids.length ≤ c ∧ c ≤ 9223372036854775807 ∧ Els w S x.kids A' ∧ w.cell? ⟨b, o + k * 3, none⟩ = some (.int .i64 x.rule) ∧ w.cell? ⟨b, o + k * 3 + 1, none⟩ = some (.int .i64 x.term) ∧ w.cell? ⟨b, o + k * 3 + 1 + 1, none⟩ = some (.slice A' x.kids.length c) := by
 obtain ⟨b, o, cs, hA, hS, hb, hr, hc⟩ := h.at_ hk
 obtain ⟨v, rfl, h1, h1', hv⟩ := rd_tree.1 hr
 obtain ⟨A', c, rfl, h2, h3, h4⟩ := hv.slice
 exact ⟨b, o, A', c, hA, hS, hb, h1, h1', h2, h3, h4, hc.c0, hc.c1, hc.d2⟩
end
end Go.Proofs.Ytjdojogjogenkaa
/- From the form's reading of an argument to plain data: what a reading gives, type by type, and how much of the bound it takes. -/
namespace Go.Proofs.Ytjdojogjogenkaa
open Go.RowKit Go.ChangeShapes Go.WideShapes Go.Deep
class Blk (α : Type) where
 blk : α → Nat
instance instBlkInt : Blk Int := ⟨fun _ => 1⟩
instance instBlkBool : Blk Bool := ⟨fun _ => 1⟩
def blkAll {α : Type} [Blk α] : List α → Nat
 | [] => 0
 | x :: xs => Blk.blk x + blkAll xs
instance instBlkList {α : Type} [Blk α] : Blk (List α) := ⟨fun l => blkAll l + 1⟩
instance instBlkSym : Blk Sym := ⟨fun _ => 3⟩
instance instBlkRule : Blk Rule := ⟨fun r => 2 + Blk.blk r.right⟩
instance instBlkGram : Blk Gram := ⟨fun g => 4 + Blk.blk g.rules⟩
mutual
def blkTree : Tree → Nat
 | ⟨_, _, ks⟩ => 3 + blkTrees ks + 1
def blkTrees : List Tree → Nat
 | [] => 0
 | k :: ks => blkTree k + blkTrees ks
end
instance instBlkTree : Blk Tree := ⟨blkTree⟩
theorem blkTrees_eq : ∀ ks : List Tree, blkTrees ks = blkAll ks
 | [] => rfl
 | k :: ks => by rw [blkTrees, blkAll, blkTrees_eq ks]; rfl
def OldS (w : World) (b : Nat) : Prop := b < w.heap.size
def Opens (P : Program) (α : Type) [Dat α] [Blk α] (t : TypeId) : Prop :=
 ∀ {H : Type} (enc : TypeId × Value → H) (w : World) (base : Nat) (spare : Nat → Bool) (held : Bool) (fuel : Nat) (cs : List Value) (y : DataW H × List MemPlace),
  DataW.trod enc P w base spare held fuel t cs = some y → ∃ x : α, Dat.rd w (OldS w) x cs ∧ Blk.blk x ≤ Rows.uptoBulk y.1
theorem i64_of_wf {n : Int} (h : (Lit.int .i64 n).wf = true) : I64 n := by
 simpa [Lit.wf, IntKind.min, IntKind.max, IntKind.signed, IntKind.bits, I64] using h
section
variable {P : Program}
theorem opens_int {t : TypeId} (ht : P.underlying t = some (.int .i64)) : Opens P Int t := by
 intro H enc w base spare held fuel cs y h
 obtain ⟨n, rfl, rfl, hw⟩ := DataW.trod_int ht h
 exact ⟨n, ⟨rfl, i64_of_wf hw⟩, by simp [Rows.uptoBulk, Blk.blk]⟩
theorem opens_bool {t : TypeId} (ht : P.underlying t = some .bool) : Opens P Bool t := by
 intro H enc w base spare held fuel cs y h
 obtain ⟨n, rfl, rfl⟩ := DataW.trod_bool ht h
 exact ⟨n, rfl, by simp [Rows.uptoBulk, Blk.blk]⟩
theorem list_of_lt {α : Type} {R : Nat → α → Prop} : ∀ (n : Nat), (∀ i, i < n → ∃ x, R i x) → ∃ xs : List α, xs.length = n ∧ ∀ (i : Nat) (x : α), xs[i]? = some x → R i x
 | 0, _ => ⟨[], rfl, by simp⟩
 | n + 1, h => by
  obtain ⟨xs, hl, hx⟩ := list_of_lt n (fun i hi => h i (by omega))
  obtain ⟨x, hr⟩ := h n (by omega)
  refine ⟨xs ++ [x], by simp [hl], fun i y hi => ?_⟩
  rcases Nat.lt_or_ge i xs.length with h1 | h1
  ·rw [List.getElem?_append_left h1] at hi; exact hx i y hi
  ·have h2 : i = n := by have := (List.getElem?_eq_some_iff.1 hi).1; simp at this; omega
   subst h2
   rw [List.getElem?_append_right h1] at hi
   simp [hl] at hi
   subst hi; exact hr
theorem bulkAll_range {H : Type} {α : Type} [Blk α] (D : Nat → DataW H) : ∀ (xs : List α) (s : Nat), (∀ (i : Nat) (x : α), xs[i]? = some x → Blk.blk x ≤ Rows.uptoBulk (D (s + i))) → blkAll xs ≤ Rows.uptoBulkAll ((List.range' s xs.length).map D)
 | [], _, _ => by simp [blkAll]
 | x :: xs, s, h => by
  have h0 := h 0 x rfl
  have ih := bulkAll_range D xs (s + 1) (fun i y hi => by have := h (i + 1) y (by simpa using hi); rwa [show s + (i + 1) = s + 1 + i from by omega] at this)
  simp only [List.length_cons, List.range'_succ, List.map_cons, blkAll, Rows.uptoBulkAll]
  simp only [Nat.add_zero] at h0
  omega
theorem addr_add {b o n : Nat} : (⟨b, o, none⟩ : Addr).add n = ⟨b, o + n, none⟩ := by unfold Addr.add; split <;> simp_all
theorem els_of_cells {α : Type} [Dat α] {w : World} {base : Nat} {a : Addr} {len : Nat} {xs : List α} (_hl : xs.length = len)
  (h : ∀ (i : Nat) (x : α), xs[i]? = some x → ∃ cs, w.cells? base (a.add (i * Dat.size α)) (Dat.size α) = some cs ∧ Dat.rd w (OldS w) x cs) : Els w (OldS w) xs (some a) := by
 intro hne
 obtain ⟨x0, hx0⟩ : ∃ x, xs[0]? = some x := ⟨_, List.getElem?_eq_getElem (List.length_pos_iff.2 hne)⟩
 have hcell : ∀ (i : Nat) (x : α), xs[i]? = some x → ∃ cs, Dat.rd w (OldS w) x cs ∧ ∀ j u, cs[j]? = some u → w.cell? ((a.add (i * Dat.size α)).add j) = some u := by
  intro i x hi
  obtain ⟨cs, h1, h2⟩ := h i x hi
  obtain ⟨_, hcl, hat⟩ := World.cells?_some h1
  exact ⟨cs, h2, fun j u hu => (hat j (by have := (List.getElem?_eq_some_iff.1 hu).1; rwa [Dat.len h2] at this)).trans hu⟩
 obtain ⟨cs0, h1, h2⟩ := hcell 0 x0 hx0
 have hp : 0 < cs0.length := by rw [Dat.len h1]; exact Dat.pos
 have hc0 := h2 0 cs0[0] (List.getElem?_eq_getElem hp)
 have ha0 : (a.add (0 * Dat.size α)).add 0 = a := by simp [Addr.add]
 rw [ha0] at hc0
 obtain ⟨b, o, spot⟩ := a
 have hspot : spot = none := by simpa using World.cell?_spot hc0
 subst hspot
 have hb : b < w.heap.size := World.block_lt_of_cell? w _ hc0
 refine ⟨b, o, rfl, hb, fun i x hi => ?_⟩
 obtain ⟨cs, h3, h4⟩ := hcell i x hi
 exact ⟨cs, h3, fun j u hu => by have := h4 j u hu; rwa [addr_add, addr_add] at this⟩
theorem opens_slice {α : Type} [Dat α] [Blk α] {t e : TypeId} (ht : P.underlying t = some (.slice e)) (hC : P.cellsOf e = Dat.size α) (he : Opens P α e) : Opens P (List α) t := by
 intro H enc w base spare held fuel cs y h
 rcases open_slice ht h with ⟨rfl, rfl⟩ | ⟨a, len, cap, m, n, D, Pl, rfl, hb, hl, hm, hmm, rfl, hi⟩
 ·exact ⟨[], ⟨none, 0, rfl, by simp, by simp, fun h => absurd rfl h⟩, by simp [Rows.uptoBulk, Blk.blk, blkAll]⟩
 ·have hlm : len ≤ m := by rw [hmm]; split <;> omega
  obtain ⟨xs, hxl, hx⟩ := list_of_lt (R := fun i (x : α) => (∃ cs, w.cells? base (a.add (i * Dat.size α)) (Dat.size α) = some cs ∧ Dat.rd w (OldS w) x cs) ∧ Blk.blk x ≤ Rows.uptoBulk (D i)) len (fun i hil => by
   obtain ⟨cs', hc, ht'⟩ := hi i (by omega)
   obtain ⟨x, h1, h2⟩ := he enc w base spare held n cs' _ ht'
   rw [hC] at hc
   exact ⟨x, ⟨cs', hc, h1⟩, h2⟩)
  refine ⟨xs, ⟨some a, cap, by rw [hxl], by omega, hm, els_of_cells hxl fun i x hi => (hx i x hi).1⟩, ?_⟩
  have hb := bulkAll_range D xs 0 (fun i x hi => by simpa using (hx i x hi).2)
  rw [hxl, ← List.range_eq_range'] at hb
  simp only [Rows.uptoBulk, Blk.blk]
  omega
theorem trod_fields {H : Type} {enc : TypeId × Value → H} {w : World} {base : Nat} {spare : Nat → Bool} {held : Bool} {t : TypeId} {fs : Array Field} {fuel : Nat} {cs : List Value} {y : DataW H × List MemPlace} (hs : P.underlying t = some (.struct fs)) (hone : oneCellFields P fs = true) (hC : P.cellsOf t = fs.size)
  (h : DataW.trod enc P w base spare held fuel t cs = some y) :
  ∃ (n : Nat) (ys : List (DataW H × List MemPlace)), fuel = n + 1 ∧ y.1 = .agg (ys.map (·.1)) ∧ cs.length = fs.size ∧ ys.length = fs.size ∧
   ∀ (j : Nat) (f : Field) (c : Value) (z : DataW H × List MemPlace), fs[j]? = some f → cs[j]? = some c → ys[j]? = some z → DataW.trod enc P w base spare held n f.type [c] = some z := by
 obtain ⟨ys, n, hn, hy, hlen, hyl, hf⟩ := DataW.trod_struct hs h
 refine ⟨n, ys, hn, by rw [hy], hlen.trans hC, hyl, fun j f c z hj hc hz => ?_⟩
 obtain ⟨ho, hk⟩ := hone_of hone j f hj
 have h1 := hf j f hj
 rw [ho, hk] at h1
 obtain ⟨hlt, rfl⟩ := List.getElem?_eq_some_iff.1 hc
 have hone' : (cs.drop j).take 1 = [cs[j]] := by
  rw [List.drop_eq_getElem_cons hlt]
  rfl
 rw [hone'] at h1
 exact h1.trans hz
theorem opens_sym {t : TypeId} {f0 f1 : Field} (hs : P.underlying t = some (.struct #[f0, f1])) (hone : oneCellFields P #[f0, f1] = true) (hC : P.cellsOf t = 2) (h0 : Opens P Bool f0.type) (h1 : Opens P Int f1.type) : Opens P Sym t := by
 intro H enc w base spare held fuel cs y h
 obtain ⟨n, ys, _, hy, hl, hyl, hf⟩ := trod_fields hs hone hC h
 match cs, hl, ys, hyl with
 | [c0, c1], _, [y0, y1], _ =>
  obtain ⟨b, hb, _⟩ := h0 enc w base spare held n [c0] y0 (hf 0 f0 c0 y0 rfl rfl rfl)
  obtain ⟨z, ⟨hz, hz'⟩, _⟩ := h1 enc w base spare held n [c1] y1 (hf 1 f1 c1 y1 rfl rfl rfl)
  have hb1 : [c0] = [Value.bool b] := hb
  obtain rfl : c0 = .bool b := by simpa using hb1
  obtain rfl : c1 = .int .i64 z := by simpa using hz
  refine ⟨⟨b, z⟩, ⟨rfl, hz'⟩, ?_⟩
  have b0 : ∀ d : DataW H, 1 ≤ Rows.uptoBulk d := fun d => by
   cases d with
   | lit l => cases l <;> simp [Rows.uptoBulk]
   | _ => simp [Rows.uptoBulk]
  have := b0 y0.1
  have := b0 y1.1
  rw [hy]
  simp only [List.map_cons, List.map_nil, Rows.uptoBulk, Rows.uptoBulkAll, Blk.blk]
  omega
theorem opens_rule {t : TypeId} {f0 f1 : Field} (hs : P.underlying t = some (.struct #[f0, f1])) (hone : oneCellFields P #[f0, f1] = true) (hC : P.cellsOf t = 2) (h0 : Opens P Int f0.type) (h1 : Opens P (List Sym) f1.type) : Opens P Rule t := by
 intro H enc w base spare held fuel cs y h
 obtain ⟨n, ys, _, hy, hl, hyl, hf⟩ := trod_fields hs hone hC h
 match cs, hl, ys, hyl with
 | [c0, c1], _, [y0, y1], _ =>
  obtain ⟨z, ⟨hz, hz'⟩, hbz⟩ := h0 enc w base spare held n [c0] y0 (hf 0 f0 c0 y0 rfl rfl rfl)
  obtain ⟨r, hr, hbr⟩ := h1 enc w base spare held n [c1] y1 (hf 1 f1 c1 y1 rfl rfl rfl)
  obtain rfl : c0 = .int .i64 z := by simpa using hz
  obtain ⟨v, hv, hvl⟩ := rd_slice hr
  obtain rfl : c1 = v := by simpa using hv
  refine ⟨⟨z, r⟩, ⟨c1, rfl, hz', hvl⟩, ?_⟩
  rw [hy]
  have e1 : Blk.blk z = 1 := rfl
  simp only [List.map_cons, List.map_nil, Rows.uptoBulk, Rows.uptoBulkAll]
  show 2 + Blk.blk r ≤ _
  omega
theorem opens_gram {t : TypeId} {f0 f1 f2 f3 : Field} (hs : P.underlying t = some (.struct #[f0, f1, f2, f3])) (hone : oneCellFields P #[f0, f1, f2, f3] = true) (hC : P.cellsOf t = 4) (h0 : Opens P Int f0.type) (h1 : Opens P Int f1.type) (h2 : Opens P Int f2.type) (h3 : Opens P (List Rule) f3.type) : Opens P Gram t := by
 intro H enc w base spare held fuel cs y h
 obtain ⟨n, ys, _, hy, hl, hyl, hf⟩ := trod_fields hs hone hC h
 match cs, hl, ys, hyl with
 | [c0, c1, c2, c3], _, [y0, y1, y2, y3], _ =>
  obtain ⟨z0, ⟨hz0, hz0'⟩, hb0⟩ := h0 enc w base spare held n [c0] y0 (hf 0 f0 c0 y0 rfl rfl rfl)
  obtain ⟨z1, ⟨hz1, hz1'⟩, hb1⟩ := h1 enc w base spare held n [c1] y1 (hf 1 f1 c1 y1 rfl rfl rfl)
  obtain ⟨z2, ⟨hz2, hz2'⟩, hb2⟩ := h2 enc w base spare held n [c2] y2 (hf 2 f2 c2 y2 rfl rfl rfl)
  obtain ⟨r, hr, hbr⟩ := h3 enc w base spare held n [c3] y3 (hf 3 f3 c3 y3 rfl rfl rfl)
  obtain rfl : c0 = .int .i64 z0 := by simpa using hz0
  obtain rfl : c1 = .int .i64 z1 := by simpa using hz1
  obtain rfl : c2 = .int .i64 z2 := by simpa using hz2
  obtain ⟨v, hv, hvl⟩ := rd_slice hr
  obtain rfl : c3 = v := by simpa using hv
  refine ⟨⟨z0, z1, z2, r⟩, ⟨c3, rfl, hz0', hz1', hz2', hvl⟩, ?_⟩
  rw [hy]
  have e0 : Blk.blk z0 = 1 := rfl
  have e1 : Blk.blk z1 = 1 := rfl
  have e2 : Blk.blk z2 = 1 := rfl
  simp only [List.map_cons, List.map_nil, Rows.uptoBulk, Rows.uptoBulkAll]
  show 4 + Blk.blk r ≤ _
  omega
theorem open_arg_struct {H : Type} {enc : TypeId × Value → H} {w : World} {base b0 : Nat} {r : Reach} {spare : Nat → Bool} {held : Bool} {α : Type} [Dat α] [Blk α] {t : TypeId} {fs : Array Field} {v : Value} {d : DataW H} {p : List MemPlace} (hw : Dat.wraps α = true) (hs : P.underlying t = some (.struct fs)) (hO : Opens P α t)
  (hv : Value.okWide P w r b0 t v) (h : DataW.Trod enc P w base spare held t v d p) : ∃ x : α, Vl w (OldS w) x v ∧ Blk.blk x ≤ Rows.uptoBulk d := by
 obtain ⟨cs, rfl, _⟩ := okWide_struct hs hv
 obtain ⟨fuel, hf⟩ := h
 obtain ⟨x, h1, h2⟩ := hO enc w base spare held fuel _ _ hf
 exact ⟨x, ⟨_, h1, by rw [if_pos hw]; rfl⟩, h2⟩
theorem open_arg_slice {H : Type} {enc : TypeId × Value → H} {w : World} {base b0 : Nat} {r : Reach} {spare : Nat → Bool} {held : Bool} {α : Type} [Dat α] [Blk α] {t e : TypeId} {v : Value} {d : DataW H} {p : List MemPlace} (hs : P.underlying t = some (.slice e)) (hO : Opens P (List α) t)
  (hv : Value.okWide P w r b0 t v) (h : DataW.Trod enc P w base spare held t v d p) : ∃ x : List α, Vl w (OldS w) x v ∧ Blk.blk x ≤ Rows.uptoBulk d := by
 obtain ⟨a, len, cap, rfl⟩ := okWide_slice hs hv
 obtain ⟨fuel, hf⟩ := h
 obtain ⟨x, h1, h2⟩ := hO enc w base spare held fuel _ _ hf
 exact ⟨x, ⟨_, h1, rfl⟩, h2⟩
theorem open_arg_int {H : Type} {enc : TypeId × Value → H} {w : World} {base b0 : Nat} {r : Reach} {spare : Nat → Bool} {held : Bool} {t : TypeId} {v : Value} {d : DataW H} {p : List MemPlace} (hs : P.underlying t = some (.int .i64))
  (hv : Value.okWide P w r b0 t v) (h : DataW.Trod enc P w base spare held t v d p) : ∃ x : Int, Vl w (OldS w) x v ∧ Blk.blk x ≤ Rows.uptoBulk d := by
 obtain ⟨n, rfl⟩ := okWide_int hs hv
 obtain ⟨fuel, hf⟩ := h
 obtain ⟨x, h1, h2⟩ := opens_int hs enc w base spare held fuel _ _ hf
 exact ⟨x, ⟨_, h1, rfl⟩, h2⟩
end
theorem blk_len {α : Type} [Blk α] (hb : ∀ x : α, 1 ≤ Blk.blk x) : ∀ (xs : List α), xs.length ≤ blkAll xs
 | [] => by simp [blkAll]
 | x :: xs => by have := blk_len hb xs; have := hb x; simp only [List.length_cons, blkAll]; omega
theorem upto_bound {H : Type} {l : List (DataW H)} (hk : Rows.uptoSmall H l = true) : Rows.uptoBulkAll l ≤ 1048576 := by
 simpa [Rows.uptoSmall] using hk
end Go.Proofs.Ytjdojogjogenkaa
/- What the seat's own types read as. -/
namespace Go.Proofs.Ytjdojogjogenkaa
open Go.RowKit
theorem opensSym : Opens Try.prog Sym 35 := opens_sym Try.underlying35 (by kernel_rfl) (by kernel_rfl) (opens_bool Try.underlying4) (opens_int Try.underlying3)
theorem opensSyms : Opens Try.prog (List Sym) 31 := opens_slice Try.underlying31 (by kernel_rfl) opensSym
theorem opensRule : Opens Try.prog Rule 33 := opens_rule Try.underlying33 (by kernel_rfl) (by kernel_rfl) (opens_int Try.underlying3) opensSyms
theorem opensRules : Opens Try.prog (List Rule) 23 := opens_slice Try.underlying23 (by kernel_rfl) opensRule
theorem opensGram : Opens Try.prog Gram 25 := opens_gram Try.underlying25 (by kernel_rfl) (by kernel_rfl) (opens_int Try.underlying3) (opens_int Try.underlying3) (opens_int Try.underlying3) opensRules
theorem opensInts : Opens Try.prog (List Int) 22 := opens_slice Try.underlying22 (by kernel_rfl) (opens_int Try.underlying3)
end Go.Proofs.Ytjdojogjogenkaa
/- The element types of slices, off the program's tables. -/
namespace Go.Proofs.Ytjdojogjogenkaa
open Go.RowKit
theorem infoInt : (Try.prog.info? 3).map (fun i => (i.zero, i.size, i.bytes)) = some (some (.int .i64 0), 1, 8) := by kernel_rfl
theorem elemInt : ElemT Try.prog Int 22 3 8 := by obtain ⟨i, h1, h2, h3, h4⟩ := info_parts infoInt; exact ⟨i, _, Try.underlying22, h1, h2, h3, h4, rfl⟩
theorem infoSym : (Try.prog.info? 35).map (fun i => (i.zero, i.size, i.bytes)) = some (some (.agg #[.bool false, .int .i64 0]), 2, 16) := by kernel_rfl
theorem elemSym : ElemT Try.prog Sym 31 35 16 := by obtain ⟨i, h1, h2, h3, h4⟩ := info_parts infoSym; exact ⟨i, _, Try.underlying31, h1, h2, h3, h4, rfl⟩
theorem infoRule : (Try.prog.info? 33).map (fun i => (i.zero, i.size, i.bytes)) = some (some (.agg #[.int .i64 0, .slice none 0 0]), 2, 32) := by kernel_rfl
theorem elemRule : ElemT Try.prog Rule 23 33 32 := by obtain ⟨i, h1, h2, h3, h4⟩ := info_parts infoRule; exact ⟨i, _, Try.underlying23, h1, h2, h3, h4, rfl⟩
theorem infoTree : (Try.prog.info? 39).map (fun i => (i.zero, i.size, i.bytes)) = some (some (.agg #[.int .i64 0, .int .i64 0, .slice none 0 0]), 3, 40) := by kernel_rfl
theorem elemTree : ElemT Try.prog Tree 37 39 40 := by obtain ⟨i, h1, h2, h3, h4⟩ := info_parts infoTree; exact ⟨i, _, Try.underlying37, h1, h2, h3, h4, rfl⟩
theorem infoInts : (Try.prog.info? 22).map (fun i => (i.zero, i.size, i.bytes)) = some (some (.slice none 0 0), 1, 24) := by kernel_rfl
theorem elemInts : ElemT Try.prog (List Int) 48 22 24 := by obtain ⟨i, h1, h2, h3, h4⟩ := info_parts infoInts; exact ⟨i, _, Try.underlying48, h1, h2, h3, h4, rfl⟩
end Go.Proofs.Ytjdojogjogenkaa
/- The index of the first element that a predicate takes; a function's number that is entered by a call through a value. -/
namespace Go.Proofs.Ytjdojogjogenkaa
open Go.RowKit
def idxI {α : Type} (p : α → Bool) (xs : List α) : Int := if xs.any p then (xs.findIdx p : Nat) else -1
theorem idxI_hit {α : Type} {p : α → Bool} {xs : List α} {k : Nat} {x : α} (hx : xs[k]? = some x) (hp : p x = true) (hno : ∀ y ∈ xs.take k, p y = false) : idxI p xs = k := by
 have hlt := (List.getElem?_eq_some_iff.1 hx).1
 have hm : x ∈ xs := List.mem_of_getElem? hx
 have ha : xs.any p = true := List.any_eq_true.2 ⟨x, hm, hp⟩
 rw [idxI, if_pos ha]
 congr 1
 have e : xs = xs.take k ++ x :: xs.drop (k + 1) := by rw [← drop_cons hx, List.take_append_drop]
 have h1 : (xs.take k).length = k := by simp; omega
 rw [e, List.findIdx_append, if_neg (by rw [h1]; intro h; have := List.findIdx_lt_length.1 (by rw [h1]; exact h : (xs.take k).findIdx p < (xs.take k).length); obtain ⟨y, hy, hpy⟩ := this; rw [hno y hy] at hpy; cases hpy)]
 rw [List.findIdx_cons, hp, h1]; simp
theorem idxI_none {α : Type} {p : α → Bool} {xs : List α} (hno : ∀ y ∈ xs, p y = false) : idxI p xs = -1 := by
 rw [idxI, if_neg]
 intro h
 obtain ⟨y, hy, hp⟩ := List.any_eq_true.1 h
 rw [hno y hy] at hp; cases hp
theorem idxI_nonneg {α : Type} (p : α → Bool) (xs : List α) : decide (0 ≤ idxI p xs) = xs.any p := by
 unfold idxI; split
 ·rename_i h; rw [h]; simp
 ·rename_i h; simp only [Bool.not_eq_true] at h; rw [h]; rfl
def IsGo (F : Nat) : Prop := ∀ (args : Array Value) (W : World), (callFunc F args).run Try.prog W = .ok (.enter F args) W
theorem isGo_of {F : Nat} {fn : Func} (hf : Try.prog.funcs[F]? = some fn) (h1 : (fn.name == "runtime.NumGoroutine") = false) (h2 : fn.body.isNone = false) : IsGo F := by
 intro args W
 have h1' : ¬ fn.name = "runtime.NumGoroutine" := by simpa using h1
 have h2' : ¬ fn.body = none := by intro e; rw [e] at h2; cases h2
 simp [callFunc, program, Sem.run, hf, h1', h2']
end Go.Proofs.Ytjdojogjogenkaa
/- Appending a whole slice onto a row of the call's own; a row made with room by append-of-make. -/
namespace Go.Proofs.Ytjdojogjogenkaa
open Go.RowKit
theorem Els.lists {α : Type} [Dat α] {w : World} {S : Nat → Prop} {b o : Nat} : ∀ (xs : List α) (s : Nat),
  (∀ i x, xs[i]? = some x → ∃ cs, Dat.rd w S x cs ∧ At w b (o + (s + i) * Dat.size α) cs) →
  ∃ css : List (List Value), css.length = xs.length ∧ (∀ (i : Nat) (x : α) (cs : List Value), xs[i]? = some x → css[i]? = some cs → Dat.rd w S x cs) ∧ At w b (o + s * Dat.size α) css.flatten
 | [], s, _ => ⟨[], rfl, by simp, by intro j u hu; simp at hu⟩
 | x :: xs, s, h => by
  obtain ⟨cs, h1, h2⟩ := h 0 x rfl
  obtain ⟨css, h3, h4, h5⟩ := Els.lists xs (s + 1) (fun i y hi => by
   obtain ⟨ds, h6, h7⟩ := h (i + 1) y (by simpa using hi)
   exact ⟨ds, h6, by rw [show s + 1 + i = s + (i + 1) from by omega]; exact h7⟩)
  refine ⟨cs :: css, by simp [h3], fun i y ds hi hd => ?_, ?_⟩
  ·match i with
   | 0 => simp at hi hd; subst hi; subst hd; exact h1
   | i + 1 => exact h4 i y ds (by simpa using hi) (by simpa using hd)
  ·intro j u hu
   rw [List.flatten_cons] at hu
   have hl := Dat.len h1
   rcases Nat.lt_or_ge j cs.length with hj | hj
   ·rw [List.getElem?_append_left hj] at hu
    have := h2 j u hu
    simpa using this
   ·rw [List.getElem?_append_right hj] at hu
    have := h5 _ u hu
    rw [hl] at this hj
    rw [show o + s * Dat.size α + j = o + (s + 1) * Dat.size α + (j - Dat.size α) from by rw [Nat.add_mul]; omega]
    exact this
theorem flat_len {size : Nat} : ∀ (css : List (List Value)) (_ : ∀ cs ∈ css, cs.length = size), css.flatten.length = css.length * size
 | [], _ => by simp
 | c :: css, h => by
  rw [List.flatten_cons, List.length_append, flat_len css (fun cs hcs => h cs (by simp [hcs])), h c (by simp), List.length_cons, Nat.add_mul]; omega
section
variable {P : Program} {w : World} {S : Nat → Prop} {base : Nat} {α : Type} [Dat α]
theorem own_many {e : TypeId} {v v' : Value} {w' : World} {xs ys : List α} {css dss : List (List Value)}
  (h2 : css.length = xs.length) (h3 : ∀ (i : Nat) (x : α) (cs : List Value), xs[i]? = some x → css[i]? = some cs → Dat.rd w (OwnT S base v w) x cs)
  (h2' : dss.length = ys.length) (h3' : ∀ (i : Nat) (x : α) (cs : List Value), ys[i]? = some x → dss[i]? = some cs → Dat.rd w (OwnT S base v w) x cs)
  (hown : w'.ownsRow base e (Dat.size α) v' (xs.length + ys.length) (css.flatten ++ dss.flatten))
  (hg : w.grownBy w' v.ownBlock) (hat : v'.ownBlock = v.ownBlock ∨ v'.ownBlock = some w.heap.size) : Own w' S base e v' (xs ++ ys) := by
 have hkeep : ∀ {y : α} {ds : List Value}, Dat.rd w (OwnT S base v w) y ds → Dat.rd w' (OwnT S base v' w') y ds := fun hy =>
  Dat.keep (fun p hp hlt => World.cell?_of_block (hg.block p.block hlt (fun e => hp.2.1 e.symm))) (fun b hb => ⟨hb.1, by
   rcases hat with e | e
   ·rw [e]; exact hb.2.1
   ·rw [e]; intro h; injection h with h; have := hb.2.2; omega, Nat.lt_of_lt_of_le hb.2.2 hg.size⟩) hy
 refine ⟨css ++ dss, by simpa using hown, by simp [h2, h2'], fun i y ds hi hd => ?_⟩
 rcases Nat.lt_or_ge i xs.length with hlt | hge
 ·rw [List.getElem?_append_left hlt] at hi
  rw [List.getElem?_append_left (by omega)] at hd
  exact hkeep (h3 i y ds hi hd)
 ·rw [List.getElem?_append_right hge] at hi
  rw [List.getElem?_append_right (by omega), h2] at hd
  exact hkeep (h3' _ y ds hi hd)
theorem run_append_nil_src {t ty e : TypeId} {i : TypeInfo} {size : Nat} (ht : P.underlying t = some (.slice e)) (hi : P.info? e = some i)
  {v : Value} {n : Nat} {xs : List Value} (hown : w.ownsRow base e size v n xs) (c : Nat) : (Builtin.append_ #[t, t] ty #[v, .slice none 0 c]).run P w = .ok v w := by
 rcases hown.2 with ⟨rfl, rfl⟩ | ⟨g, cap, cur, rfl, _, _, hnc, _⟩
 ·simp [Builtin.append_, run_underlying ht, sizeOf, typeInfo, hi, Builtin.lenOf, Builtin.firstCells]
 ·simp [Builtin.append_, run_underlying ht, sizeOf, typeInfo, hi, Builtin.lenOf, Builtin.firstCells, hnc, storeCells]
theorem run_append_none_src {t ty e : TypeId} {i : TypeInfo} {size : Nat} (ht : P.underlying t = some (.slice e)) (hi : P.info? e = some i)
  {v : Value} {n : Nat} {xs : List Value} (hown : w.ownsRow base e size v n xs) (ad : Addr) (c : Nat) : (Builtin.append_ #[t, t] ty #[v, .slice (some ad) 0 c]).run P w = .ok v w := by
 rcases hown.2 with ⟨rfl, rfl⟩ | ⟨g, cap, cur, rfl, _, _, hnc, _⟩
 ·simp [Builtin.append_, run_underlying ht, sizeOf, typeInfo, hi, Builtin.lenOf, Builtin.firstCells, loadCells, loadCellsFrom]
 ·simp [Builtin.append_, run_underlying ht, sizeOf, typeInfo, hi, Builtin.lenOf, Builtin.firstCells, hnc, storeCells, loadCells, loadCellsFrom]
theorem run_ownMany {t ty e : TypeId} {bytes : Nat} (hT : ElemT P α t e bytes) {v : Value} {xs ys : List α} {A : Option Addr} {c : Nat} (hown : Own w S base e v xs)
  (hys : Els w (OwnT S base v w) ys A) (hlen : (xs.length + ys.length) * bytes ≤ 140737488355328) (hmax : xs.length + ys.length ≤ 9223372036854775807) (hbase : base ≤ w.heap.size) :
  ∃ v' w', (Builtin.append_ #[t, t] ty #[v, .slice A ys.length c]).run P w = .ok v' w' ∧ Own w' S base e v' (xs ++ ys) ∧ w.grownBy w' v.ownBlock ∧ (v'.ownBlock = v.ownBlock ∨ v'.ownBlock = some w.heap.size) := by
 obtain ⟨i, z, ht, hi, hz, hsize, hby, hzs⟩ := hT
 by_cases hne : ys = []
 ·subst hne
  refine ⟨v, w, ?_, by simpa using hown, ⟨rfl, rfl, rfl, Nat.le_refl _, fun _ _ _ => rfl⟩, .inl rfl⟩
  obtain ⟨css, h1, _⟩ := hown
  cases A with
  | none => exact run_append_nil_src ht hi h1 c
  | some ad => exact run_append_none_src ht hi h1 ad c
 ·obtain ⟨b, o, rfl, hb, hx⟩ := hys hne
  obtain ⟨dss, h2', h3', h4'⟩ := Els.lists (o := o) ys 0 (fun i x hi => by simpa using hx i x hi)
  simp only [Nat.zero_mul, Nat.add_zero] at h4'
  obtain ⟨css, h1, h2, h3⟩ := hown
  have hdl : ∀ ds ∈ dss, ds.length = Dat.size α := by
   intro ds hds
   obtain ⟨i, hi, rfl⟩ := List.getElem_of_mem hds
   exact Dat.len (h3' i _ _ (List.getElem?_eq_getElem (by omega : i < ys.length)) (List.getElem?_eq_getElem hi))
  have hfl := flat_len dss hdl
  have hone : ∀ u ∈ dss.flatten, u.oneCell' = true := by
   intro u hu
   obtain ⟨ds, hds, hu⟩ := List.mem_flatten.1 hu
   obtain ⟨i, hi, rfl⟩ := List.getElem_of_mem hds
   exact Dat.one (h3' i _ _ (List.getElem?_eq_getElem (by omega : i < ys.length)) (List.getElem?_eq_getElem hi)) u hu
  obtain ⟨v', w', hr, ho, hg, _, h5⟩ := run_append_own_at (P := P) w base t ty e i z (Dat.size α) bytes ht hi hz hsize hby hzs Dat.pos v xs.length css.flatten h1 ⟨b, o, none⟩ ys.length c dss.flatten (by rw [hfl, h2'])
   (by
    intro j u hu
    have h := h4' j u hu
    have hadd : (⟨b, o, none⟩ : Addr).add j = ⟨b, o + j, none⟩ := by unfold Addr.add; split <;> simp_all
    rw [hadd]; exact h) hone (by simpa [maxLen] using hmax) hlen hbase
  exact ⟨v', w', hr, own_many h2 h3 h2' h3' ho hg h5, hg, h5⟩
end
section
variable {P : Program} (w : World) {S : Nat → Prop} {base : Nat} {α : Type} [Dat α]
theorem wp_ownMany {o : Oper} {a : Act} {K : Act → World → Prop} {Q : Exit → Act → World → Prop} (s xo : Operand) {t e : TypeId} {bytes : Nat} (hT : ElemT P α t e bytes)
  (ho : o.op = .call { callee := .builtin .append, args := #[s, xo], argTypes := #[t, t] })
  {v : Value} {xs : List α} (hs : a.eval s = v) (hown : Own w S base e v xs) (ys : List α) {A : Option Addr} {n c : Nat} (hx : a.eval xo = .slice A n c) (hn : n = ys.length)
  (hys : Els w (OwnT S base v w) ys A) (hlen : (xs.length + ys.length) * bytes ≤ 140737488355328) (hmax : xs.length + ys.length ≤ 9223372036854775807) (hbase : base ≤ w.heap.size)
  (h : ∀ v' w', Own w' S base e v' (xs ++ ys) → w.grownBy w' v.ownBlock → (v'.ownBlock = v.ownBlock ∨ v'.ownBlock = some w.heap.size) → K (a.put o.dst v') w') : o.wp P a w K Q := by
 subst hn
 obtain ⟨v', w', hrun, h2, h3, h4⟩ := run_ownMany (ty := o.type) (c := c) hT hown hys hlen hmax hbase
 unfold Oper.wp execOp
 simp only [ho, resolve, invoke, builtin, Sem.run_bind, Sem.run_pure, Result.andThen_ok, List.map_toArray, List.map_cons, List.map_nil, hs, hx, hrun]
 exact h v' w' h2 h3 h4
theorem wpList_ownMany {ops : Array Oper} {rest : List Oper} {o : Oper} {a : Act} {Q : Exit → Act → World → Prop} (hgd : o.guard = none) (s xo : Operand) {t e : TypeId} {bytes : Nat} (hT : ElemT P α t e bytes)
  (ho : o.op = .call { callee := .builtin .append, args := #[s, xo], argTypes := #[t, t] })
  {v : Value} {xs : List α} (hs : a.eval s = v) (hown : Own w S base e v xs) (ys : List α) {A : Option Addr} {n c : Nat} (hx : a.eval xo = .slice A n c) (hn : n = ys.length)
  (hys : Els w (OwnT S base v w) ys A) (hlen : (xs.length + ys.length) * bytes ≤ 140737488355328) (hmax : xs.length + ys.length ≤ 9223372036854775807) (hbase : base ≤ w.heap.size)
  (h : ∀ v' w', Own w' S base e v' (xs ++ ys) → w.grownBy w' v.ownBlock → (v'.ownBlock = v.ownBlock ∨ v'.ownBlock = some w.heap.size) → wpList P ops Q rest (a.put o.dst v') w') : wpList P ops Q (o :: rest) a w :=
 wpList_plain hgd fun _ hK => wp_ownMany w s xo hT ho hs hown ys hx hn hys hlen hmax hbase fun v' w' h2 h3 h4 => hK _ _ (h v' w' h2 h3 h4)
end
theorem Own.made {α : Type} [Dat α] {w : World} (S : Nat → Prop) {base : Nat} {e : TypeId} {cur : Array Value} {cap : Nat} (hb : base ≤ w.heap.size) (hm : cap ≤ 9223372036854775807) (hs : cur.size = cap * Dat.size α) :
  Own (w.alloc (.cells cur e)) S base e (.slice (some ⟨w.heap.size, 0, none⟩) 0 cap) ([] : List α) :=
 ⟨[], World.ownsRow_made w cur cap hb (by simpa [maxLen] using hm) hs, rfl, fun i x cs h => by simp at h⟩
theorem run_room {P : Program} {w : World} {α : Type} [Dat α] {t tn ty e : TypeId} {bytes : Nat} {kn k : IntKind} (hT : ElemT P α t e bytes) (htn : P.underlying tn = some (.int kn)) (n : Nat) (h0 : 0 < n) (h48 : n * bytes ≤ 281474976710656) (h63 : n ≤ 9223372036854775807) :
  ∃ w' g cap, (Builtin.append_ #[t, tn] ty #[.slice none 0 0, .int k n]).run P w = .ok (.slice (some ⟨g, 0, none⟩) n cap) w' ∧ g = w.heap.size ∧ n ≤ cap ∧ cap ≤ 9223372036854775807 ∧ (∀ S, Own w' S w.heap.size e (.slice (some ⟨g, 0, none⟩) 0 cap) ([] : List α)) ∧ Below w.heap.size w w' ∧ w'.heap.size = w.heap.size + 1 := by
 obtain ⟨i, z, ht, hi, hz, hsize, hby, hzs⟩ := hT
 have hr := Lib.run_append_nil_zeros (P := P) w t tn ty e i z k kn ht htn hi hz n h0 (by rw [hsize]; exact Dat.pos) (by omega) (by rw [hby]; exact h48)
 have hge := grownCap_ge w n 0 e
 have hcm := grownCap_le_maxLen w n 0 e (by simpa [maxLen] using h63)
 refine ⟨_, _, _, hr, rfl, hge, by simpa [maxLen] using hcm, fun S => ?_, ((Below.refl _ _).drew).alloc (Nat.le_refl _) _, by simp⟩
 exact Own.made (w := w.drew) S (Nat.le_refl _) (by simpa [maxLen] using hcm) (by simp only [Array.size_append, size_zeroCells, hzs, ← Nat.add_mul]; congr 1; omega)
theorem Own.litGrown {α : Type} [Dat α] {w : World} (S : Nat → Prop) {base : Nat} {e : TypeId} (xs : List α) (css : List (List Value)) (z : Array Value) (n : Nat) (hn : n = xs.length) (hz : z.size = Dat.size α) (hb : base ≤ w.heap.size) (hm : xs.length ≤ 9223372036854775807) (hl : css.length = xs.length)
  (hr : ∀ (i : Nat) (x : α) (cs : List Value), xs[i]? = some x → css[i]? = some cs → Dat.rd w (fun b => (S b ∨ base ≤ b) ∧ b < w.heap.size) x cs) (w0 : World) :
  Own (w.alloc (.cells (css.flatten.toArray ++ Builtin.zeroCells z ((Question.appendCap n 0 e).cut (w0.tape w0.drawn (Question.appendCap n 0 e)) - n)) e)).drew S base e (.slice (some ⟨w.heap.size, 0, none⟩) n ((Question.appendCap n 0 e).cut (w0.tape w0.drawn (Question.appendCap n 0 e)))) xs := by
 subst hn
 have hge := grownCap_ge w0 xs.length 0 e
 have hcm := grownCap_le_maxLen w0 xs.length 0 e (by simpa [maxLen] using hm)
 unfold grownCap at hge hcm
 generalize (Question.appendCap xs.length 0 e).cut (w0.tape w0.drawn (Question.appendCap xs.length 0 e)) = cap at *
 have hdl : ∀ ds ∈ css, ds.length = Dat.size α := by
  intro ds hds
  obtain ⟨i, hi, rfl⟩ := List.getElem_of_mem hds
  exact Dat.len (hr i _ _ (List.getElem?_eq_getElem (by omega : i < xs.length)) (List.getElem?_eq_getElem hi))
 have hfl := flat_len css hdl
 rw [hl] at hfl
 refine ⟨css, ⟨hfl, .inr ⟨w.heap.size, cap, _, rfl, hb, heap_alloc_new w _, hge, hcm, ?_, ?_⟩⟩, hl, fun i x cs hi hc => Dat.keep (fun p hp hlt => ?_) (fun b hb' => ⟨hb'.1, ?_, ?_⟩) (hr i x cs hi hc)⟩
 ·simp only [Array.size_append, size_zeroCells, hz, List.size_toArray, hfl, ← Nat.add_mul]; congr 1; omega
 ·rw [Array.toList_append, List.take_append_of_le_length (by simp [hfl])]
  exact List.take_of_length_le (by simp [hfl])
 ·exact ((Below.refl _ _).alloc (Nat.le_refl _) _ : Below w.heap.size w _).cell hp.2
 ·simp [Value.ownBlock]; have := hb'.2; omega
 ·have := hb'.2; simp; omega
def RetOwn {α : Type} [Dat α] (w0 : World) (S : Nat → Prop) (et : TypeId) (xs : List α) (e : Ending) (w' : World) : Prop :=
 ∃ v, e = .returned v ∧ Own w' S w0.heap.size et v xs ∧ Below w0.heap.size w0 w'
theorem flat_take_le {α : Type} (xss : List (List α)) (k : Nat) : (xss.take k).flatten.length ≤ xss.flatten.length := by
 conv => rhs; rw [← List.take_append_drop k xss]
 rw [List.flatten_append, List.length_append]; omega
theorem flat_take_snoc {α : Type} {xss : List (List α)} {k : Nat} {xs : List α} (h : xss[k]? = some xs) : (xss.take (k + 1)).flatten = (xss.take k).flatten ++ xs := by
 rw [take_snoc h, List.flatten_append]; simp
theorem Els.own {α : Type} [Dat α] {w : World} {S : Nat → Prop} {base : Nat} {e : TypeId} {β : Type} [Dat β] {v : Value} {ys : List β} {xs : List α} {A : Option Addr} (h : Els w S xs A) (hown : Own w S base e v ys) (hS : ∀ b, S b → b < base) (hb : base ≤ w.heap.size) : Els w (OwnT S base v w) xs A :=
 h.keep (fun _ _ _ => rfl) (fun b hb' => ⟨.inl hb', fun e => by have := (hown.block b e).1; have := hS b hb'; omega, by have := hS b hb'; omega⟩)
theorem own_ne {α : Type} [Dat α] {w : World} {S : Nat → Prop} {B : Nat} {e : TypeId} {v : Value} {xs : List α} (h : Own w S (B + 1) e v xs) : some B ≠ v.ownBlock := fun e => by have := (h.block B e.symm).1; omega
theorem At.new (w : World) (cs : List Value) (t : TypeId) : At (w.alloc (.cells cs.toArray t)) w.heap.size 0 cs := fun j u hu => by
 rw [Nat.zero_add, World.cell?_alloc_new]; simpa using hu
theorem snoc_len {α : Type} (l : List α) (x : α) : (l ++ [x]).length = l.length + 1 := by simp
theorem Own.base {α : Type} [Dat α] {w : World} {S : Nat → Prop} {base base' : Nat} {e : TypeId} {v : Value} {xs : List α} (h : Own w S base e v xs) (hb : base' ≤ base) : Own w S base' e v xs := by
 obtain ⟨css, h1, h2, h3⟩ := h
 refine ⟨css, ⟨h1.1, ?_⟩, h2, fun i x cs hi hc => Dat.keep (fun _ _ _ => rfl) (fun b hb' => ⟨hb'.1.imp id (fun h => Nat.le_trans hb h), hb'.2⟩) (h3 i x cs hi hc)⟩
 rcases h1.2 with h | ⟨g, cap, cur, q1, q2, q3⟩
 ·exact .inl h
 ·exact .inr ⟨g, cap, cur, q1, Nat.le_trans hb q2, q3⟩
theorem els_of_blk {α : Type} [Dat α] {w : World} {S : Nat → Prop} {g : Nat} {t : TypeId} {xs : List α} {cells : Array Value} (css : List (List Value)) (hb : Blk' w g t cells) (hc : cells = css.flatten.toArray) (hl : css.length = xs.length)
  (hr : ∀ (i : Nat) (x : α) (cs : List Value), xs[i]? = some x → css[i]? = some cs → Dat.rd w S x cs) (hS : S g) : Els w S xs (some ⟨g, 0, none⟩) := by
 subst hc
 intro _
 refine ⟨g, 0, rfl, hS, fun i x hi => ?_⟩
 have hil : i < css.length := by have := (List.getElem?_eq_some_iff.1 hi).1; omega
 have hci : css[i]? = some css[i] := List.getElem?_eq_getElem hil
 refine ⟨css[i], hr i x _ hi hci, fun j u hu => ?_⟩
 have hcl : ∀ cs ∈ css, cs.length = Dat.size α := by
  intro cs hcs
  obtain ⟨k, hk, rfl⟩ := List.getElem_of_mem hcs
  exact Dat.len (hr k _ _ (List.getElem?_eq_getElem (by omega : k < xs.length)) (List.getElem?_eq_getElem hk))
 have hf := flat_get css hcl i j _ u hci hu
 rw [hb.cell]
 simpa [Nat.zero_add] using hf
theorem rd_two {α : Type} [Dat α] {w : World} {S : Nat → Prop} {x y : α} {cs ds : List Value} (h1 : Dat.rd w S x cs) (h2 : Dat.rd w S y ds) : ∀ (i : Nat) (z : α) (es : List Value), [x, y][i]? = some z → [cs, ds][i]? = some es → Dat.rd w S z es
 | 0, z, es, hi, hd => by simp at hi hd; subst hi; subst hd; exact h1
 | 1, z, es, hi, hd => by simp at hi hd; subst hi; subst hd; exact h2
 | _ + 2, z, es, hi, _ => by simp at hi
theorem rd_one {α : Type} [Dat α] {w : World} {S : Nat → Prop} {x : α} {cs : List Value} (h1 : Dat.rd w S x cs) : ∀ (i : Nat) (z : α) (es : List Value), [x][i]? = some z → [cs][i]? = some es → Dat.rd w S z es
 | 0, z, es, hi, hd => by simp at hi hd; subst hi; subst hd; exact h1
 | _ + 1, z, es, hi, _ => by simp at hi
end Go.Proofs.Ytjdojogjogenkaa
/- slices.SortFunc at symbols, laid for the shelf's contract. -/
namespace Go.Proofs.Ytjdojogjogenkaa
open Go.Shelf
def sortS_ren : Go.Shelf.Ren := ⟨fun | 6 => 61 | 15 => 77 | 14 => 76 | 28 => 88 | 29 => 89 | 20 => 80 | 21 => 81 | 22 => 82 | 23 => 83 | 24 => 84 | 25 => 85 | 26 => 86 | 27 => 87 | 46 => 92 | 47 => 93 | 48 => 94 | 49 => 95 | 50 => 96 | 57 => 97 | n => n, fun | 22 => 31 | 24 => 35 | 25 => 103 | 3 => 3 | 39 => 119 | 0 => 0 | 53 => 132 | 55 => 134 | 4 => 4 | 46 => 125 | 45 => 124 | 50 => 129 | 5 => 5 | 9 => 9 | 66 => 139 | 70 => 66 | 76 => 144 | 77 => 145 | n => n, fun | n => n⟩
theorem sortS : Go.Proofs.SlLaysF0.n6 Try.prog sortS_ren := {
 mixed := by kernel_rfl,
 f6 := ⟨Try.f61.name, by decide, Try.func61.trans (congrArg some (by kernel_rfl))⟩,
 f14 := ⟨Try.f76.name, by decide, Try.func76.trans (congrArg some (by kernel_rfl))⟩,
 f15 := Try.func77.trans (congrArg some (by kernel_rfl)),
 f20 := ⟨Try.f80.name, by decide, Try.func80.trans (congrArg some (by kernel_rfl))⟩,
 f21 := ⟨Try.f81.name, by decide, Try.func81.trans (congrArg some (by kernel_rfl))⟩,
 f22 := ⟨Try.f82.name, by decide, Try.func82.trans (congrArg some (by kernel_rfl))⟩,
 f23 := ⟨Try.f83.name, by decide, Try.func83.trans (congrArg some (by kernel_rfl))⟩,
 f24 := ⟨Try.f84.name, by decide, Try.func84.trans (congrArg some (by kernel_rfl))⟩,
 f25 := ⟨Try.f85.name, by decide, Try.func85.trans (congrArg some (by kernel_rfl))⟩,
 f26 := ⟨Try.f86.name, by decide, Try.func86.trans (congrArg some (by kernel_rfl))⟩,
 f27 := ⟨Try.f87.name, by decide, Try.func87.trans (congrArg some (by kernel_rfl))⟩,
 f28 := Try.func88.trans (congrArg some (by kernel_rfl)),
 f29 := Try.func89.trans (congrArg some (by kernel_rfl)),
 f46 := ⟨Try.f92.name, by decide, Try.func92.trans (congrArg some (by kernel_rfl))⟩,
 f47 := Try.func93.trans (congrArg some (by kernel_rfl)),
 f48 := Try.func94.trans (congrArg some (by kernel_rfl)),
 f49 := ⟨Try.f95.name, by decide, Try.func95.trans (congrArg some (by kernel_rfl))⟩,
 f50 := ⟨Try.f96.name, by decide, Try.func96.trans (congrArg some (by kernel_rfl))⟩,
 f57 := ⟨Try.f97.name, by decide, Try.func97.trans (congrArg some (by kernel_rfl))⟩,
 t0 := Try.underlying0,
 a0 := Try.isAgg0,
 z0 := Try.sizeOf0,
 v0 := Try.zeroValue0,
 t3 := Try.underlying3,
 a3 := Try.isAgg3,
 z3 := Try.sizeOf3,
 v3 := Try.zeroValue3,
 t4 := Try.underlying4,
 a4 := Try.isAgg4,
 z4 := Try.sizeOf4,
 v4 := Try.zeroValue4,
 t5 := Try.underlying5,
 a5 := Try.isAgg5,
 z5 := Try.sizeOf5,
 v5 := Try.zeroValue5,
 t9 := Try.underlying9,
 a9 := Try.isAgg9,
 z9 := Try.sizeOf9,
 v9 := Try.zeroValue9,
 t22 := Try.underlying31,
 a22 := Try.isAgg31,
 z22 := Try.sizeOf31,
 v22 := Try.zeroValue31,
 t25 := Try.underlying103,
 a25 := Try.isAgg103,
 z25 := Try.sizeOf103,
 v25 := Try.zeroValue103,
 t39 := Try.underlying119,
 a39 := Try.isAgg119,
 z39 := Try.sizeOf119,
 v39 := Try.zeroValue119,
 t45 := Try.underlying124,
 a45 := Try.isAgg124,
 z45 := Try.sizeOf124,
 v45 := Try.zeroValue124,
 t46 := Try.underlying125,
 a46 := Try.isAgg125,
 z46 := Try.sizeOf125,
 v46 := Try.zeroValue125,
 t50 := Try.underlying129,
 a50 := Try.isAgg129,
 z50 := Try.sizeOf129,
 v50 := Try.zeroValue129,
 t53 := Try.underlying132,
 a53 := Try.isAgg132,
 z53 := Try.sizeOf132,
 v53 := Try.zeroValue132,
 t55 := Try.underlying134,
 a55 := Try.isAgg134,
 z55 := Try.sizeOf134,
 v55 := Try.zeroValue134,
 t66 := Try.underlying139,
 a66 := Try.isAgg139,
 z66 := Try.sizeOf139,
 v66 := Try.zeroValue139,
 t70 := Try.underlying66,
 a70 := Try.isAgg66,
 z70 := Try.sizeOf66,
 v70 := Try.zeroValue66,
 t76 := Try.underlying144,
 a76 := Try.isAgg144,
 z76 := Try.sizeOf144,
 v76 := Try.zeroValue144,
 t77 := Try.underlying145,
 a77 := Try.isAgg145,
 z77 := Try.sizeOf145,
 v77 := Try.zeroValue145 }
end Go.Proofs.Ytjdojogjogenkaa
/- A world that has kept all its blocks but those of a set. No program is named here. -/
namespace Go.Proofs.Ytjdojogjogenkaa
open Go.RowKit
set_option linter.unusedVariables false
structure Kept (X : Nat → Prop) (w w' : World) : Prop where
 os : w'.os = w.os
 tape : w'.tape = w.tape
 output : w'.output = w.output
 size : w.heap.size ≤ w'.heap.size
 block : ∀ k, k < w.heap.size → ¬ X k → w'.heap[k]? = w.heap[k]?
section
variable {X Y : Nat → Prop} {w w' w'' : World}
theorem Kept.refl (X : Nat → Prop) (w : World) : Kept X w w := ⟨rfl, rfl, rfl, Nat.le_refl _, fun _ _ _ => rfl⟩
theorem Kept.trans (h : Kept X w w') (k : Kept X w' w'') : Kept X w w'' :=
 ⟨k.os.trans h.os, k.tape.trans h.tape, k.output.trans h.output, Nat.le_trans h.size k.size, fun i hi hx => (k.block i (Nat.lt_of_lt_of_le hi h.size) hx).trans (h.block i hi hx)⟩
theorem Kept.mono (h : Kept X w w') (hx : ∀ b, b < w.heap.size → X b → Y b) : Kept Y w w' := ⟨h.os, h.tape, h.output, h.size, fun k hk hy => h.block k hk (fun hb => hy (hx k hk hb))⟩
theorem Kept.of_below (X : Nat → Prop) (h : Below w.heap.size w w') : Kept X w w' := ⟨h.os, h.tape, h.output, h.size, fun k hk _ => h.block k hk⟩
theorem Kept.of_grown {row : Option Nat} (h : w.grownBy w' row) (hX : ∀ k, row = some k → X k) : Kept X w w' := ⟨h.os, h.tape, h.output, h.size, fun k hk hx => h.block k hk (fun e => hx (hX k e.symm))⟩
theorem Kept.alloc (h : Kept X w w') (o : Obj) : Kept X w (w'.alloc o) := h.trans (Kept.of_below X ((Below.refl _ _).alloc (Nat.le_refl _) o))
theorem Kept.drew (h : Kept X w w') : Kept X w w'.drew := ⟨h.os, h.tape, h.output, h.size, h.block⟩
theorem Kept.below (h : Kept X w w') (k : Below w'.heap.size w' w'') : Kept X w w'' := h.trans (Kept.of_below X k)
theorem Kept.grown {row : Option Nat} (h : Kept X w w') (k : w'.grownBy w'' row) (hX : ∀ k, row = some k → X k ∨ w.heap.size ≤ k) : Kept X w w'' :=
 ⟨k.os.trans h.os, k.tape.trans h.tape, k.output.trans h.output, Nat.le_trans h.size k.size, fun i hi hx => (k.block i (Nat.lt_of_lt_of_le hi h.size) (fun e => by
  rcases hX i e.symm with q | q
  ·exact hx q
  ·omega)).trans (h.block i hi hx)⟩
theorem Kept.setCell (h : Kept X w w') {p : Addr} (hp : X p.block ∨ w.heap.size ≤ p.block) (u : Value) : Kept X w (w'.setCell p u) :=
 ⟨h.os, h.tape, h.output, by simpa [World.setCell] using h.size, fun i hi hx => (Below.heap_setCell _ _ _ _ (by
  rintro rfl
  rcases hp with q | q
  ·exact hx q
  ·omega)).trans (h.block i hi hx)⟩
theorem Kept.to_below {B : Nat} (h : Kept X w w') (hX : ∀ b, X b → B ≤ b) (hB : B ≤ w.heap.size) : Below B w w' :=
 ⟨h.os, h.tape, h.output, h.size, fun k hk => h.block k (by omega) (fun hx => by have := hX k hx; omega)⟩
theorem Kept.later (h : Kept X w w') (k : Kept Y w' w'') (hY : ∀ b, Y b → X b ∨ w.heap.size ≤ b) : Kept X w w'' :=
 ⟨k.os.trans h.os, k.tape.trans h.tape, k.output.trans h.output, Nat.le_trans h.size k.size, fun i hi hx => (k.block i (Nat.lt_of_lt_of_le hi h.size) (fun hy => by
  rcases hY i hy with q | q
  ·exact hx q
  ·omega)).trans (h.block i hi hx)⟩
theorem Kept.undrew {w : World} (h : Kept X w.drew w') : Kept X w w' := ⟨h.os, h.tape, h.output, h.size, h.block⟩
theorem Kept.cell {p : Addr} (h : Kept X w w') (hp : p.block < w.heap.size) (hx : ¬ X p.block) : w'.cell? p = w.cell? p := World.cell?_of_block (h.block p.block hp hx)
theorem Blk'.kept {g : Nat} {t : TypeId} {cs : Array Value} (h : Blk' w g t cs) (k : Kept X w w') (hx : ¬ X g) : Blk' w' g t cs := (k.block g h.lt hx).trans h
theorem Els.kept {α : Type} [Dat α] {S : Nat → Prop} {xs : List α} {A : Option Addr} (h : Els w S xs A) (k : Kept X w w') (hx : ∀ b, S b → ¬ X b) : Els w' S xs A :=
 h.keep (fun p hs hp => k.cell hp (hx _ hs)) (fun _ h => h)
theorem Vl.kept {α : Type} [Dat α] {S : Nat → Prop} {x : α} {v : Value} (h : Vl w S x v) (k : Kept X w w') (hx : ∀ b, S b → ¬ X b) : Vl w' S x v :=
 h.keep (fun p hs hp => k.cell hp (hx _ hs)) (fun _ h => h)
theorem Own.kept {α : Type} [Dat α] {S : Nat → Prop} {base : Nat} {e : TypeId} {v : Value} {xs : List α} (h : Own w S base e v xs) (k : Kept X w w') (hx : ∀ b, X b → ¬ (S b ∨ base ≤ b)) : Own w' S base e v xs := by
 obtain ⟨css, h1, h2, h3⟩ := h
 have hg : ∀ g, v.ownBlock = some g → w'.heap[g]? = w.heap[g]? := fun g hg => k.block g (h1.lt g hg).2 (fun hX => hx g hX (.inr (h1.lt g hg).1))
 refine ⟨css, ?_, h2, fun i x cs hi hc => Dat.keep (fun p hp hlt => k.cell hlt (fun hX => hx _ hX hp.1)) (fun b hb => ⟨hb.1, hb.2.1, Nat.lt_of_lt_of_le hb.2.2 k.size⟩) (h3 i x cs hi hc)⟩
 refine ⟨h1.1, ?_⟩
 rcases h1.2 with q | ⟨g, cap, cur, q1, q2, q3, q4⟩
 ·exact .inl q
 ·exact .inr ⟨g, cap, cur, q1, q2, (hg g (by rw [q1]; rfl)).trans q3, q4⟩
end
end Go.Proofs.Ytjdojogjogenkaa
/- Lists alike up to a place. -/
namespace Go.Proofs.Ytjdojogjogenkaa
open Go.RowKit
set_option linter.unusedVariables false
theorem take_ne {α : Type} {xs ys : List α} {k : Nat} {x y : α} (hx : xs[k]? = some x) (hy : ys[k]? = some y) (h : x ≠ y) : xs ≠ ys := by
 rintro rfl; rw [hx] at hy; exact h (by injection hy)
theorem take_eq {α : Type} {xs ys : List α} {k : Nat} {x y : α} (hx : xs[k]? = some x) (hy : ys[k]? = some y) (h : x = y) (ht : xs.take k = ys.take k) : xs.take (k + 1) = ys.take (k + 1) := by
 rw [take_snoc hx, take_snoc hy, ht, h]
theorem take_all {α : Type} {xs ys : List α} {k : Nat} (hl : xs.length = ys.length) (hk : xs.length ≤ k) (ht : xs.take k = ys.take k) : xs = ys := by
 rwa [List.take_of_length_le hk, List.take_of_length_le (by omega)] at ht
end Go.Proofs.Ytjdojogjogenkaa
/- The plain law of FirstWords: in sets that are closed under the rules, the word of a tree begins with a terminal of First of its root, and an empty word's root is in Null. No program is named here. -/
namespace Go.Proofs.Ytjdojogjogenkaa
open Go.RowKit
set_option linter.unusedVariables false
def orRow : List Bool → List Bool → List Bool
 | [], _ => []
 | t :: ts, [] => t :: ts
 | t :: ts, f :: fs => (t || f) :: orRow ts fs
theorem orRow_len : ∀ (a b : List Bool), (orRow a b).length = a.length
 | [], _ => rfl
 | _ :: _, [] => rfl
 | _ :: ts, _ :: fs => by simp [orRow, orRow_len ts fs]
theorem orRow_left : ∀ (a b : List Bool) (j : Nat), a[j]? = some true → (orRow a b)[j]? = some true
 | [], _, _, h => by simp at h
 | t :: ts, [], j, h => by simpa [orRow] using h
 | t :: ts, f :: fs, 0, h => by simp at h; simp [orRow, h]
 | t :: ts, f :: fs, j + 1, h => by
  simp only [orRow, List.getElem?_cons_succ]
  exact orRow_left ts fs j (by simpa using h)
theorem orRow_right : ∀ (a b : List Bool) (j : Nat), a.length = b.length → b[j]? = some true → (orRow a b)[j]? = some true
 | [], [], _, _, h => by simp at h
 | [], _ :: _, _, hl, h => by simp at hl
 | t :: ts, [], j, hl, h => by simp at hl
 | t :: ts, f :: fs, 0, hl, h => by simp at h; simp [orRow, h]
 | t :: ts, f :: fs, j + 1, hl, h => by
  simp only [orRow, List.getElem?_cons_succ]
  exact orRow_right ts fs j (by simpa using hl) (by simpa using h)
def ofFrom (e : List Bool) (f : List (List Bool)) : List Bool → List Sym → List Bool × Bool
 | out, [] => (out, true)
 | out, x :: xs => if x.term then (out.set x.n.toNat true, false) else if e.getD x.n.toNat false then ofFrom e f (orRow out (f.getD x.n.toNat [])) xs else (orRow out (f.getD x.n.toNat []), false)
theorem ofFrom_len (e : List Bool) (f : List (List Bool)) : ∀ (l : List Sym) (out : List Bool), (ofFrom e f out l).1.length = out.length
 | [], out => rfl
 | x :: xs, out => by
  unfold ofFrom
  split
  ·simp
  ·split
   ·rw [ofFrom_len e f xs, orRow_len]
   ·rw [orRow_len]
theorem ofFrom_mono (e : List Bool) (f : List (List Bool)) : ∀ (l : List Sym) (out : List Bool) (j : Nat), out[j]? = some true → (ofFrom e f out l).1[j]? = some true
 | [], out, j, h => h
 | x :: xs, out, j, h => by
  unfold ofFrom
  split
  ·have hj := (List.getElem?_eq_some_iff.1 h).1
   simp only [List.getElem?_set]
   split
   ·simp [hj]; omega
   ·exact h
  ·split
   ·exact ofFrom_mono e f xs _ j (orRow_left _ _ _ h)
   ·exact orRow_left _ _ _ h
mutual
def vt (g : Gram) : Tree → Sym → Prop
 | ⟨r, t, ks⟩, s => if s.term then r = -1 ∧ t = s.n ∧ ks = [] else t = 0 ∧ 0 ≤ r ∧ ∃ q : Rule, g.rules[r.toNat]? = some q ∧ q.left = s.n ∧ vts g ks q.right
def vts (g : Gram) : List Tree → List Sym → Prop
 | [], [] => True
 | k :: ks, s :: ss => vt g k s ∧ vts g ks ss
 | [], _ :: _ => False
 | _ :: _, [] => False
end
mutual
def yieldT : Tree → List Int
 | ⟨r, t, ks⟩ => if r < 0 then [t] else yields ks
def yields : List Tree → List Int
 | [] => []
 | k :: ks => yieldT k ++ yields ks
end
def InF (m : Nat) (f : List (List Bool)) (n : Nat) (c : Int) : Prop := 0 ≤ c ∧ c < (m : Int) ∧ (f.getD n [])[c.toNat]? = some true
structure ClosedS (g : Gram) (m : Nat) (e : List Bool) (f : List (List Bool)) : Prop where
 rows : ∀ n : Nat, n < g.nons.toNat → (f.getD n []).length = m
 first : ∀ q ∈ g.rules, ∀ j : Nat, (ofFrom e f (List.replicate m false) q.right).1[j]? = some true → (f.getD q.left.toNat [])[j]? = some true
 null : ∀ q ∈ g.rules, (ofFrom e f (List.replicate m false) q.right).2 = true → e.getD q.left.toNat false = true
def SymIn (m : Nat) (g : Gram) (s : Sym) : Prop := 0 ≤ s.n ∧ if s.term then s.n < (m : Int) else s.n < g.nons
mutual
theorem first_tree {g : Gram} {m : Nat} {e : List Bool} {f : List (List Bool)} (hc : ClosedS g m e f) (hok : ∀ q ∈ g.rules, ∀ s ∈ q.right, SymIn m g s) :
  ∀ (t : Tree) (s : Sym), vt g t s → s.term = false → (yieldT t = [] → e.getD s.n.toNat false = true) ∧ ∀ c w, yieldT t = c :: w → InF m f s.n.toNat c
 | ⟨r, t, ks⟩, s, h, hs => by
  unfold vt at h
  rw [if_neg (by simp [hs])] at h
  obtain ⟨_, hr, q, hq, hql, hks⟩ := h
  have hm := List.mem_of_getElem? hq
  have hy : yieldT ⟨r, t, ks⟩ = yields ks := by unfold yieldT; rw [if_neg (by omega)]
  have ih := first_kids hc hok ks q.right (List.replicate m false) (by simp) (hok q hm) hks
  rw [hy, ← hql]
  exact ⟨fun h0 => hc.null q hm (ih.1 h0), fun c w hw => by
   obtain ⟨h1, h2, h3⟩ := ih.2 c w hw
   exact ⟨h1, h2, hc.first q hm _ h3⟩⟩
theorem first_kids {g : Gram} {m : Nat} {e : List Bool} {f : List (List Bool)} (hc : ClosedS g m e f) (hok : ∀ q ∈ g.rules, ∀ s ∈ q.right, SymIn m g s) :
  ∀ (ks : List Tree) (ss : List Sym) (out : List Bool), out.length = m → (∀ s ∈ ss, SymIn m g s) → vts g ks ss → (yields ks = [] → (ofFrom e f out ss).2 = true) ∧ ∀ c w, yields ks = c :: w → 0 ≤ c ∧ c < (m : Int) ∧ (ofFrom e f out ss).1[c.toNat]? = some true
 | [], [], out, _, _, _ => ⟨fun _ => rfl, fun c w h => by simp [yields] at h⟩
 | [], _ :: _, out, _, _, h => by unfold vts at h; exact h.elim
 | _ :: _, [], out, _, _, h => by unfold vts at h; exact h.elim
 | k :: ks, s :: ss, out, hl, hin, h => by
  unfold vts at h
  have hs := hin s (by simp)
  obtain ⟨hs0, hs1⟩ := hs
  cases hterm : s.term
  ·rw [hterm] at hs1
   simp at hs1
   have hrow := hc.rows s.n.toNat (by omega)
   have iht := first_tree hc hok k s h.1 hterm
   have ihk := first_kids hc hok ks ss (orRow out (f.getD s.n.toNat [])) (by rw [orRow_len]; exact hl) (fun x hx => hin x (by simp [hx])) h.2
   have hof : ofFrom e f out (s :: ss) = if e.getD s.n.toNat false then ofFrom e f (orRow out (f.getD s.n.toNat [])) ss else (orRow out (f.getD s.n.toNat []), false) := by
    rw [ofFrom, hterm]; simp
   rw [hof]
   show (yieldT k ++ yields ks = [] → _) ∧ ∀ c w, yieldT k ++ yields ks = c :: w → _
   refine ⟨fun h0 => ?_, fun c w hw => ?_⟩
   ·obtain ⟨h1, h2⟩ := List.append_eq_nil_iff.1 h0
    rw [if_pos (iht.1 h1)]
    exact ihk.1 h2
   ·cases hyk : yieldT k with
    | nil =>
     rw [hyk] at hw
     rw [if_pos (iht.1 hyk)]
     exact ihk.2 c w hw
    | cons c' w' =>
     rw [hyk] at hw
     simp at hw
     obtain ⟨rfl, _⟩ := hw
     obtain ⟨h1, h2, h3⟩ := iht.2 _ _ hyk
     have h4 := orRow_right out (f.getD s.n.toNat []) c'.toNat (by rw [hl, hrow]) h3
     refine ⟨h1, h2, ?_⟩
     split
     ·exact ofFrom_mono e f ss _ _ h4
     ·exact h4
  ·rw [hterm] at hs1
   simp at hs1
   have hk := h.1
   cases k with
   | mk r t kk =>
    unfold vt at hk
    rw [if_pos hterm] at hk
    obtain ⟨rfl, rfl, rfl⟩ := hk
    have hy : yields (⟨-1, s.n, []⟩ :: ks) = s.n :: yields ks := by simp [yields, yieldT]
    rw [hy]
    refine ⟨fun h0 => by simp at h0, fun c w hw => ?_⟩
    simp at hw
    obtain ⟨rfl, _⟩ := hw
    refine ⟨hs0, hs1, ?_⟩
    rw [ofFrom, if_pos hterm]
    simp only [List.getElem?_set]
    rw [if_pos trivial, if_pos (by omega)]
end
theorem orRow_or : ∀ (a b : List Bool) (j : Nat), (orRow a b)[j]? = some true → a[j]? = some true ∨ b[j]? = some true
 | [], _, _, h => by simp [orRow] at h
 | t :: ts, [], j, h => .inl (by simpa [orRow] using h)
 | t :: ts, u :: us, 0, h => by simp [orRow] at h; rcases h with h | h <;> simp [h]
 | t :: ts, u :: us, j + 1, h => by simpa using orRow_or ts us j (by simpa [orRow] using h)
end Go.Proofs.Ytjdojogjogenkaa
/- How many nodes a tree has. No program is named here. -/
namespace Go.Proofs.Ytjdojogjogenkaa
set_option linter.unusedVariables false
mutual
def nodesT : Tree → Nat
 | ⟨_, _, ks⟩ => 1 + nodesL ks
def nodesL : List Tree → Nat
 | [] => 0
 | k :: ks => nodesT k + nodesL ks
end
theorem nodesL_append : ∀ (a b : List Tree), nodesL (a ++ b) = nodesL a + nodesL b
 | [], b => by simp [nodesL]
 | x :: a, b => by simp only [List.cons_append, nodesL, nodesL_append a b]; omega
theorem yields_append : ∀ (a b : List Tree), yields (a ++ b) = yields a ++ yields b
 | [], b => by simp [yields]
 | x :: a, b => by simp only [List.cons_append, yields, yields_append a b, List.append_assoc]
theorem len_nodes : ∀ (a : List Tree), a.length ≤ nodesL a
 | [] => by simp [nodesL]
 | ⟨r, t, ks⟩ :: a => by have := len_nodes a; simp only [List.length_cons, nodesL, nodesT]; omega
mutual
theorem yield_nodes : ∀ (t : Tree), (yieldT t).length ≤ nodesT t
 | ⟨r, t, ks⟩ => by
  unfold yieldT nodesT
  split
  ·simp
  ·have := yields_nodes ks; omega
theorem yields_nodes : ∀ (ks : List Tree), (yields ks).length ≤ nodesL ks
 | [] => by simp [yields]
 | k :: ks => by
  have := yield_nodes k
  have := yields_nodes ks
  simp only [yields, List.length_append, nodesL]; omega
end
end Go.Proofs.Ytjdojogjogenkaa
/- Plain: trees of a grammar, small laws. No program is named here. -/
namespace Go.Proofs.Ytjdojogjogenkaa
set_option linter.unusedVariables false
section
variable {g : Gram}
theorem vtSomeB {t : Tree} {l : Int} (h : vt g t ⟨false, l⟩) : ∃ (i : Nat) (q : Rule) (ks : List Tree), t = ⟨(i : Int), 0, ks⟩ ∧ g.rules[i]? = some q ∧ q.left = l ∧ vts g ks q.right := by
 obtain ⟨r, t, ks⟩ := t
 unfold vt at h
 simp only [Bool.false_eq_true, if_false] at h
 obtain ⟨rfl, hr, q, hq, hl, hk⟩ := h
 exact ⟨r.toNat, q, ks, by rw [Int.toNat_of_nonneg hr], hq, hl, hk⟩
theorem vtMkB {i : Nat} {q : Rule} {ks : List Tree} (h : g.rules[i]? = some q) (hk : vts g ks q.right) : vt g ⟨(i : Int), 0, ks⟩ ⟨false, q.left⟩ := by
 unfold vt
 simp only [Bool.false_eq_true, if_false]
 exact ⟨trivial, by omega, q, by rw [Int.toNat_natCast]; exact h, rfl, hk⟩
theorem vtTermB {t : Tree} {s : Sym} (h : vt g t s) (hs : s.term = true) : t = ⟨-1, s.n, []⟩ := by
 obtain ⟨r, t, ks⟩ := t
 unfold vt at h
 rw [if_pos hs] at h
 obtain ⟨rfl, rfl, rfl⟩ := h
 rfl
theorem vtLeafB {s : Sym} (hs : s.term = true) : vt g ⟨-1, s.n, []⟩ s := by
 unfold vt
 rw [if_pos hs]
 exact ⟨rfl, rfl, rfl⟩
theorem yieldNodeB {r t : Int} {ks : List Tree} (h : 0 ≤ r) : yieldT ⟨r, t, ks⟩ = yields ks := by rw [yieldT, if_neg (by omega)]
theorem yieldsOneB (e : Tree) : yields [e] = yieldT e := by simp [yields]
theorem nodesMkB (r t : Int) (ks : List Tree) : nodesT ⟨r, t, ks⟩ = 1 + nodesL ks := by rw [nodesT]
theorem nodesOneB (e : Tree) : nodesL [e] = nodesT e := by simp [nodesL]
theorem nodesMemB : ∀ {ks : List Tree} {k : Tree}, k ∈ ks → nodesT k ≤ nodesL ks
 | x :: ks, k, h => by
  rw [nodesL]
  rcases List.mem_cons.1 h with rfl | h
  ·omega
  ·have := nodesMemB h; omega
theorem vts_lenB : ∀ {ks : List Tree} {ss : List Sym}, vts g ks ss → ks.length = ss.length
 | [], [], _ => rfl
 | [], _ :: _, h => by simp [vts] at h
 | _ :: _, [], h => by simp [vts] at h
 | k :: ks, s :: ss, h => by
  simp only [vts] at h
  simp [vts_lenB h.2]
theorem vts_appB : ∀ {ks : List Tree} {ss : List Sym} {js : List Tree} {us : List Sym}, vts g ks ss → vts g js us → vts g (ks ++ js) (ss ++ us)
 | [], [], js, us, _, h => h
 | [], _ :: _, _, _, h, _ => by simp [vts] at h
 | _ :: _, [], _, _, h, _ => by simp [vts] at h
 | k :: ks, s :: ss, js, us, h, h2 => by
  simp only [vts] at h
  simp only [List.cons_append, vts]
  exact ⟨h.1, vts_appB h.2 h2⟩
theorem vts_cutB : ∀ {ss : List Sym} {us : List Sym} {ks : List Tree}, vts g ks (ss ++ us) → vts g (ks.take ss.length) ss ∧ vts g (ks.drop ss.length) us
 | [], us, ks, h => ⟨by simp [vts], by simpa using h⟩
 | s :: ss, us, [], h => by simp [vts] at h
 | s :: ss, us, k :: ks, h => by
  simp only [List.cons_append, vts] at h
  have := vts_cutB h.2
  simp only [List.length_cons, List.take_succ_cons, List.drop_succ_cons, vts]
  exact ⟨⟨h.1, this.1⟩, this.2⟩
theorem vts_oneB {k : Tree} {s : Sym} (h : vt g k s) : vts g [k] [s] := by simp only [vts]; exact ⟨h, trivial⟩
end
end Go.Proofs.Ytjdojogjogenkaa
/- Plain law of a step of factoring: the trees of both grammars answer to each other, with the same words. No program is named here. -/
namespace Go.Proofs.Ytjdojogjogenkaa
set_option linter.unusedVariables false
mutual
def ftT (tov tail : List Int) (cm : Nat) (hd : Int) : Tree → Tree
 | ⟨r, t, ks⟩ => if r < 0 then ⟨-1, t, []⟩ else if 0 ≤ tov.getD r.toNat 0 then ⟨tov.getD r.toNat 0, 0, ftL tov tail cm hd ks⟩ else ⟨hd, 0, (ftL tov tail cm hd ks).take cm ++ [⟨tail.getD r.toNat 0, 0, (ftL tov tail cm hd ks).drop cm⟩]⟩
def ftL (tov tail : List Int) (cm : Nat) (hd : Int) : List Tree → List Tree
 | [] => []
 | k :: ks => ftT tov tail cm hd k :: ftL tov tail cm hd ks
end
def kidR (cm : Nat) (ks : List Tree) : Int := match ks[cm]? with | some k => k.rule | none => 0
mutual
def fbT (tov tail : List Int) (cm : Nat) (hd : Int) : Tree → Tree
 | ⟨r, t, ks⟩ => if r < 0 then ⟨-1, t, []⟩ else if r = hd then ⟨idxI (fun x => kidR cm ks == x) tail, 0, fbH tov tail cm hd cm ks⟩ else ⟨idxI (fun x => r == x) tov, 0, fbL tov tail cm hd ks⟩
def fbH (tov tail : List Int) (cm : Nat) (hd : Int) : Nat → List Tree → List Tree
 | _, [] => []
 | 0, ⟨_, _, ks⟩ :: _ => fbL tov tail cm hd ks
 | j + 1, k :: ks => fbT tov tail cm hd k :: fbH tov tail cm hd j ks
def fbL (tov tail : List Int) (cm : Nat) (hd : Int) : List Tree → List Tree
 | [] => []
 | k :: ks => fbT tov tail cm hd k :: fbL tov tail cm hd ks
end
structure FacOk (g h : Gram) (cm : Nat) (hd : Int) (tov tail : List Int) : Prop where
 start : h.start = g.start
 hd0 : 0 ≤ hd
 head : ∃ a pre, h.rules[hd.toNat]? = some ⟨a, pre ++ [⟨false, g.nons⟩]⟩ ∧ pre.length = cm ∧ ∀ (i : Nat) (q : Rule), g.rules[i]? = some q → tov[i]? = some (-1) → q.left = a ∧ q.right.take cm = pre ∧ cm ≤ q.right.length
 there : ∀ (i : Nat) (q : Rule), g.rules[i]? = some q → (∃ r : Nat, tov[i]? = some (r : Int) ∧ (r : Int) ≠ hd ∧ h.rules[r]? = some q ∧ idxI (fun x => (r : Int) == x) tov = (i : Int)) ∨ (tov[i]? = some (-1) ∧ ∃ r : Nat, tail[i]? = some (r : Int) ∧ h.rules[r]? = some ⟨g.nons, q.right.drop cm⟩ ∧ idxI (fun x => (r : Int) == x) tail = (i : Int))
 back : ∀ (r : Nat) (z : Rule), h.rules[r]? = some z → (z.left = g.nons ∧ ∃ (i : Nat) (q : Rule), tov[i]? = some (-1) ∧ g.rules[i]? = some q ∧ tail[i]? = some (r : Int)) ∨ (z.left ≠ g.nons ∧ ((r : Int) = hd ∨ ∃ (i : Nat) (q : Rule), g.rules[i]? = some q ∧ tov[i]? = some (r : Int)))
 old : ∀ q ∈ g.rules, q.left < g.nons ∧ ∀ s ∈ q.right, s.term = true ∨ s.n < g.nons
theorem ftL_map (tov tail : List Int) (cm : Nat) (hd : Int) : ∀ ks, ftL tov tail cm hd ks = ks.map (ftT tov tail cm hd)
 | [] => rfl
 | k :: ks => by rw [ftL, ftL_map tov tail cm hd ks]; rfl
theorem fbL_map (tov tail : List Int) (cm : Nat) (hd : Int) : ∀ ks, fbL tov tail cm hd ks = ks.map (fbT tov tail cm hd)
 | [] => rfl
 | k :: ks => by rw [fbL, fbL_map tov tail cm hd ks]; rfl
theorem fbH_eq (tov tail : List Int) (cm : Nat) (hd : Int) : ∀ (j : Nat) (ks : List Tree) (x : Tree) (us : List Tree), ks.length = j → fbH tov tail cm hd j (ks ++ x :: us) = fbL tov tail cm hd (ks ++ x.kids)
 | 0, [], ⟨r, t, js⟩, us, _ => by rw [List.nil_append, fbH]; rfl
 | 0, _ :: _, _, _, h => by simp at h
 | j + 1, [], _, _, h => by simp at h
 | j + 1, k :: ks, x, us, h => by
  rw [List.cons_append, fbH, fbH_eq tov tail cm hd j ks x us (by simpa using h)]
  rfl
theorem getD_of {α : Type} {l : List α} {i : Nat} {x d : α} (h : l[i]? = some x) : l.getD i d = x := by rw [List.getD_eq_getElem?_getD, h]; rfl
section
variable {g h : Gram} {cm : Nat} {hd : Int} {tov tail : List Int}
theorem ft_vts (H : FacOk g h cm hd tov tail) : ∀ (ks : List Tree) (ss : List Sym), (∀ k ∈ ks, ∀ s, vt g k s → (s.term = true ∨ s.n < g.nons) → vt h (ftT tov tail cm hd k) s ∧ fbT tov tail cm hd (ftT tov tail cm hd k) = k ∧ yieldT (ftT tov tail cm hd k) = yieldT k ∧ nodesT (ftT tov tail cm hd k) ≤ 2 * nodesT k) →
  (∀ s ∈ ss, s.term = true ∨ s.n < g.nons) → vts g ks ss → vts h (ftL tov tail cm hd ks) ss ∧ fbL tov tail cm hd (ftL tov tail cm hd ks) = ks ∧ yields (ftL tov tail cm hd ks) = yields ks ∧ nodesL (ftL tov tail cm hd ks) ≤ 2 * nodesL ks
 | [], [], _, _, _ => by simp [ftL, fbL, vts, yields, nodesL]
 | [], _ :: _, _, _, h => by simp [vts] at h
 | _ :: _, [], _, _, h => by simp [vts] at h
 | k :: ks, s :: ss, hi, ho, hv => by
  simp only [vts] at hv
  obtain ⟨a1, a2, a3, a4⟩ := hi k (by simp) s hv.1 (ho s (by simp))
  obtain ⟨b1, b2, b3, b4⟩ := ft_vts H ks ss (fun x hx => hi x (by simp [hx])) (fun x hx => ho x (by simp [hx])) hv.2
  simp only [ftL, fbL, vts, yields, nodesL, a2, a3, b2, b3]
  exact ⟨⟨a1, b1⟩, trivial, trivial, by omega⟩
theorem ft_law (H : FacOk g h cm hd tov tail) : ∀ (N : Nat) (t : Tree), nodesT t ≤ N → ∀ s, vt g t s → (s.term = true ∨ s.n < g.nons) → vt h (ftT tov tail cm hd t) s ∧ fbT tov tail cm hd (ftT tov tail cm hd t) = t ∧ yieldT (ftT tov tail cm hd t) = yieldT t ∧ nodesT (ftT tov tail cm hd t) ≤ 2 * nodesT t
 | 0, ⟨r, t, ks⟩, hN, s, _, _ => by rw [nodesT] at hN; omega
 | N + 1, t, hN, s, hv, hs => by
  by_cases hst : s.term = true
  ·have e := vtTermB hv hst
   subst e
   rw [ftT, if_pos (by omega), fbT, if_pos (by omega)]
   exact ⟨vtLeafB hst, rfl, rfl, by omega⟩
  ·obtain ⟨st, l⟩ := s
   have e : st = false := by simpa using hst
   subst e
   obtain ⟨i, q, ks, rfl, hq, hql, hk⟩ := vtSomeB hv
   have hqm := List.mem_of_getElem? hq
   rw [nodesMkB] at hN
   obtain ⟨b1, b2, b3, b4⟩ := ft_vts H ks q.right (fun x hx => ft_law H N x (by have := nodesMemB hx; omega)) (H.old q hqm).2 hk
   rw [ftT, if_neg (by omega), Int.toNat_natCast]
   rcases H.there i q hq with ⟨r, h1, h2, h3, h4⟩ | ⟨h1, r, h2, h3, h4⟩
   ·rw [getD_of h1, if_pos (by omega), fbT, if_neg (by omega), if_neg h2, h4, b2]
    refine ⟨?_, rfl, ?_, ?_⟩
    ·rw [← hql]; exact vtMkB h3 b1
    ·rw [yieldNodeB (by omega), yieldNodeB (by omega), b3]
    ·rw [nodesMkB, nodesMkB]; omega
   ·obtain ⟨a, pre, hh, hpl, hpre⟩ := H.head
    obtain ⟨p1, p2, p3⟩ := hpre i q hq h1
    have hd0 := H.hd0
    obtain ⟨d, rfl⟩ : ∃ d : Nat, hd = (d : Int) := ⟨hd.toNat, by omega⟩
    rw [Int.toNat_natCast] at hh
    rw [getD_of h1, if_neg (by omega), getD_of h2]
    have hlen : (ftL tov tail cm (d : Int) ks).length = q.right.length := by rw [ftL_map, List.length_map]; exact vts_lenB hk
    have hcut : vts h (ftL tov tail cm (d : Int) ks) (q.right.take cm ++ q.right.drop cm) := by rw [List.take_append_drop]; exact b1
    have hc := vts_cutB hcut
    rw [List.length_take, Nat.min_eq_left p3] at hc
    obtain ⟨F, hF⟩ : ∃ F, F = ftL tov tail cm (d : Int) ks := ⟨_, rfl⟩
    rw [← hF] at b1 b2 b3 b4 hlen hc ⊢
    refine ⟨?_, ?_, ?_, ?_⟩
    ·have h5 : vt h ⟨(r : Int), 0, F.drop cm⟩ ⟨false, g.nons⟩ := vtMkB h3 hc.2
     have h6 := vtMkB hh (vts_appB (p2 ▸ hc.1) (vts_oneB h5))
     dsimp only at h6
     rw [← hql, p1]
     exact h6
    ·have hk0 : kidR cm (F.take cm ++ [(⟨(r : Int), 0, F.drop cm⟩ : Tree)]) = (r : Int) := by
      unfold kidR
      rw [List.getElem?_append_right (by rw [List.length_take]; omega), List.length_take, Nat.min_eq_left (by omega), Nat.sub_self]
      rfl
     rw [fbT, if_neg (by omega), if_pos rfl, hk0, h4, fbH_eq tov tail cm (d : Int) cm _ _ [] (by rw [List.length_take]; omega)]
     show (⟨(i : Int), 0, fbL tov tail cm (d : Int) (F.take cm ++ F.drop cm)⟩ : Tree) = _
     rw [List.take_append_drop, b2]
    ·rw [yieldNodeB (by omega), yieldNodeB (by omega), yields_append, yieldsOneB, yieldNodeB (by omega), ← yields_append, List.take_append_drop, b3]
    ·rw [nodesMkB, nodesMkB, nodesL_append, nodesOneB, nodesMkB]
     have := nodesL_append (F.take cm) (F.drop cm)
     rw [List.take_append_drop] at this
     omega
theorem fb_vts (H : FacOk g h cm hd tov tail) : ∀ (ks : List Tree) (ss : List Sym), (∀ k ∈ ks, ∀ s, vt h k s → (s.term = true ∨ s.n < g.nons) → vt g (fbT tov tail cm hd k) s ∧ ftT tov tail cm hd (fbT tov tail cm hd k) = k ∧ nodesT (fbT tov tail cm hd k) ≤ nodesT k) →
  (∀ s ∈ ss, s.term = true ∨ s.n < g.nons) → vts h ks ss → vts g (fbL tov tail cm hd ks) ss ∧ ftL tov tail cm hd (fbL tov tail cm hd ks) = ks ∧ nodesL (fbL tov tail cm hd ks) ≤ nodesL ks
 | [], [], _, _, _ => by simp [ftL, fbL, vts, nodesL]
 | [], _ :: _, _, _, h => by simp [vts] at h
 | _ :: _, [], _, _, h => by simp [vts] at h
 | k :: ks, s :: ss, hi, ho, hv => by
  simp only [vts] at hv
  obtain ⟨a1, a2, a4⟩ := hi k (by simp) s hv.1 (ho s (by simp))
  obtain ⟨b1, b2, b4⟩ := fb_vts H ks ss (fun x hx => hi x (by simp [hx])) (fun x hx => ho x (by simp [hx])) hv.2
  simp only [ftL, fbL, vts, nodesL, a2, b2]
  exact ⟨⟨a1, b1⟩, trivial, by omega⟩
theorem fb_law (H : FacOk g h cm hd tov tail) : ∀ (N : Nat) (t : Tree), nodesT t ≤ N → ∀ s, vt h t s → (s.term = true ∨ s.n < g.nons) → vt g (fbT tov tail cm hd t) s ∧ ftT tov tail cm hd (fbT tov tail cm hd t) = t ∧ nodesT (fbT tov tail cm hd t) ≤ nodesT t
 | 0, ⟨r, t, ks⟩, hN, s, _, _ => by rw [nodesT] at hN; omega
 | N + 1, t, hN, s, hv, hs => by
  have hi := fb_law H N
  by_cases hst : s.term = true
  ·have e := vtTermB hv hst
   subst e
   rw [fbT, if_pos (by omega), ftT, if_pos (by omega)]
   exact ⟨vtLeafB hst, rfl, by omega⟩
  ·obtain ⟨st, l⟩ := s
   have e : st = false := by simpa using hst
   subst e
   obtain ⟨r, z, ks, rfl, hz, hzl, hk⟩ := vtSomeB hv
   rw [nodesMkB] at hN
   have hd0 := H.hd0
   have hsl : l < g.nons := by rcases hs with h | h <;> simp_all
   rw [fbT, if_neg (by omega)]
   have hcs : (r : Int) = hd ∨ ((r : Int) ≠ hd ∧ ∃ (i : Nat) (q : Rule), g.rules[i]? = some q ∧ tov[i]? = some (r : Int)) := by
    rcases H.back r z hz with ⟨h1, _⟩ | ⟨_, h1 | h1⟩
    ·omega
    ·exact .inl h1
    ·by_cases e : (r : Int) = hd
     ·exact .inl e
     ·exact .inr ⟨e, h1⟩
   rcases hcs with rfl | ⟨hne, i, q, hq, hto⟩
   ·rw [if_pos rfl]
    obtain ⟨a, pre, hh, hpl, hpre⟩ := H.head
    rw [Int.toNat_natCast, hz] at hh
    injection hh with hh
    subst hh
    dsimp only at hzl hk
    have hc := vts_cutB hk
    rw [hpl] at hc
    have hkl := vts_lenB hk
    rw [List.length_append, List.length_singleton, hpl] at hkl
    obtain ⟨rest, hrest⟩ : ∃ x, ks.drop cm = [x] := by
     have h1 : (ks.drop cm).length = 1 := by rw [List.length_drop]; omega
     match h2 : ks.drop cm, h1 with
     | [x], _ => exact ⟨x, rfl⟩
    have hks : ks = ks.take cm ++ [rest] := by rw [← hrest, List.take_append_drop]
    rw [hrest] at hc
    simp only [vts] at hc
    obtain ⟨r2, z2, ks2, rfl, hz2, hz2l, hk2⟩ := vtSomeB hc.2.1
    rcases H.back r2 z2 hz2 with ⟨_, i, q, h1, h2, h3⟩ | ⟨h1, _⟩
    ·have hqm := List.mem_of_getElem? h2
     obtain ⟨p1, p2, p3⟩ := hpre i q h2 h1
     rcases H.there i q h2 with ⟨r', h1', _⟩ | ⟨_, r', h5, h6, h7⟩
     ·rw [h1] at h1'; injection h1' with h1'; omega
     ·rw [h3] at h5
      injection h5 with h5
      have h5 : r2 = r' := by omega
      subst h5
      rw [hz2] at h6
      injection h6 with h6
      subst h6
      dsimp only at hk2
      have hk0 : kidR cm ks = (r2 : Int) := by
       unfold kidR
       rw [hks, List.getElem?_append_right (by rw [List.length_take]; omega), List.length_take, Nat.min_eq_left (by omega), Nat.sub_self]
       rfl
      rw [hk0, h7]
      have hH : fbH tov tail cm (r : Int) cm ks = fbL tov tail cm (r : Int) (ks.take cm ++ ks2) := by
       rw [congrArg (fbH tov tail cm (r : Int) cm) hks, fbH_eq tov tail cm (r : Int) cm _ _ [] (by rw [List.length_take]; omega)]; rfl
      rw [hH]
      have hall : vts h (ks.take cm ++ ks2) q.right := by
       have := vts_appB (p2 ▸ hc.1) hk2
       rwa [List.take_append_drop] at this
      have hnl : nodesL ks = nodesL (ks.take cm) + (1 + nodesL ks2) := by
       rw [congrArg nodesL hks, nodesL_append, nodesOneB, nodesMkB]
      obtain ⟨b1, b2, b4⟩ := fb_vts H (ks.take cm ++ ks2) q.right (fun x hx => hi x (by
       have := nodesMemB hx
       rw [nodesL_append] at this
       omega)) (H.old q hqm).2 hall
      refine ⟨?_, ?_, ?_⟩
      ·rw [← hzl, ← p1]; exact vtMkB h2 b1
      ·rw [ftT, if_neg (by omega), Int.toNat_natCast, getD_of h1, if_neg (by omega), getD_of h3, b2]
       rw [List.take_append_of_le_length (by rw [List.length_take]; omega), List.drop_append_of_le_length (by rw [List.length_take]; omega), List.take_take, Nat.min_self, List.drop_eq_nil_of_le (by rw [List.length_take]; omega), List.nil_append]
       exact congrArg _ hks.symm
      ·rw [nodesMkB, nodesMkB]
       rw [nodesL_append] at b4
       omega
    ·omega
   ·rw [if_neg hne]
    have hqm := List.mem_of_getElem? hq
    rcases H.there i q hq with ⟨r', h1, h2, h3, h4⟩ | ⟨h1, _⟩
    ·rw [hto] at h1
     injection h1 with h1
     have h1 : r = r' := by omega
     subst h1
     rw [hz] at h3
     injection h3 with h3
     subst h3
     obtain ⟨b1, b2, b4⟩ := fb_vts H ks z.right (fun x hx => hi x (by have := nodesMemB hx; omega)) (H.old z hqm).2 hk
     rw [h4]
     refine ⟨?_, ?_, ?_⟩
     ·rw [← hzl]; exact vtMkB hq b1
     ·rw [ftT, if_neg (by omega), Int.toNat_natCast, getD_of hto, if_pos (by omega), b2]
     ·rw [nodesMkB, nodesMkB]; omega
    ·rw [hto] at h1
     injection h1 with h1
     omega
end
end Go.Proofs.Ytjdojogjogenkaa
/- The plain law of core.Ends and core.Reach: tables of masks that are sound and closed under the rules tell which parts of a word the symbols derive. No program is named here. -/
namespace Go.Proofs.Ytjdojogjogenkaa
set_option linter.unusedVariables false
inductive DerW (g : Gram) : List Sym → List Int → Prop where
 | nil : DerW g [] []
 | term (n : Int) (ss : List Sym) (u : List Int) (h : DerW g ss u) : DerW g (⟨true, n⟩ :: ss) (n :: u)
 | non (q : Rule) (ss : List Sym) (u v : List Int) (hq : q ∈ g.rules) (h1 : DerW g q.right u) (h2 : DerW g ss v) : DerW g (⟨false, q.left⟩ :: ss) (u ++ v)
mutual
theorem der_of_tree {g : Gram} : ∀ (t : Tree) (s : Sym), vt g t s → ∀ ss v, DerW g ss v → DerW g (s :: ss) (yieldT t ++ v)
 | ⟨r, t, ks⟩, ⟨st, sn⟩, h, ss, v, hv => by
  unfold vt at h
  cases st
  ·rw [if_neg (by simp)] at h
   obtain ⟨_, hr, q, hq, hql, hks⟩ := h
   have hy : yieldT ⟨r, t, ks⟩ = yields ks := by unfold yieldT; rw [if_neg (by omega)]
   rw [hy]
   dsimp only at hql
   subst hql
   exact .non q ss _ v (List.mem_of_getElem? hq) (der_of_trees ks q.right hks) hv
  ·rw [if_pos (by simp)] at h
   obtain ⟨hr, ht, _⟩ := h
   dsimp only at ht
   subst ht
   have hy : yieldT ⟨r, t, ks⟩ = [t] := by unfold yieldT; rw [if_pos (by omega)]
   rw [hy]
   exact .term t ss v hv
theorem der_of_trees {g : Gram} : ∀ (ks : List Tree) (ss : List Sym), vts g ks ss → DerW g ss (yields ks)
 | [], [], _ => by unfold yields; exact .nil
 | k :: ks, s :: ss, h => by
  unfold vts at h
  unfold yields
  exact der_of_tree k s h.1 ss _ (der_of_trees ks ss h.2)
 | [], _ :: _, h => by unfold vts at h; exact h.elim
 | _ :: _, [], h => by unfold vts at h; exact h.elim
end
theorem trees_of_der {g : Gram} {ss : List Sym} {u : List Int} (h : DerW g ss u) (hn : ∀ q ∈ g.rules, 0 ≤ q.left) : ∃ ks, vts g ks ss ∧ yields ks = u := by
 induction h with
 | nil => exact ⟨[], by unfold vts; trivial, by unfold yields; rfl⟩
 | term n ss u _ ih =>
  obtain ⟨ks, h1, h2⟩ := ih
  refine ⟨⟨-1, n, []⟩ :: ks, ?_, ?_⟩
  ·unfold vts
   refine ⟨?_, h1⟩
   unfold vt
   rw [if_pos (by simp)]
   simp
  ·unfold yields
   have hy : yieldT ⟨-1, n, []⟩ = [n] := by unfold yieldT; rw [if_pos (by omega)]
   rw [hy, h2]
   rfl
 | non q ss u v hq _ _ ih1 ih2 =>
  obtain ⟨k1, h1, h2⟩ := ih1
  obtain ⟨k2, h3, h4⟩ := ih2
  obtain ⟨i, hi⟩ := List.mem_iff_getElem?.1 hq
  refine ⟨⟨(i : Int), 0, k1⟩ :: k2, ?_, ?_⟩
  ·unfold vts
   refine ⟨?_, h3⟩
   unfold vt
   rw [if_neg (by simp)]
   exact ⟨rfl, by omega, q, by simpa using hi, rfl, h1⟩
  ·unfold yields
   have hy : yieldT ⟨(i : Int), 0, k1⟩ = yields k1 := by unfold yieldT; rw [if_neg (by omega)]
   rw [hy, h2, h4]
theorem DerW.append {g : Gram} {ss rr : List Sym} {u v : List Int} (h : DerW g ss u) (k : DerW g rr v) : DerW g (ss ++ rr) (u ++ v) := by
 induction h with
 | nil => exact k
 | term n ss u _ ih => exact .term n _ _ ih
 | non q ss u1 u2 hq h1 _ _ ih => rw [List.append_assoc]; exact .non q _ _ _ hq h1 ih
theorem DerW.split {g : Gram} {ss rr : List Sym} {u : List Int} (h : DerW g (ss ++ rr) u) : ∃ v x, u = v ++ x ∧ DerW g ss v ∧ DerW g rr x := by
 induction ss generalizing u with
 | nil => exact ⟨[], u, rfl, .nil, h⟩
 | cons s ss ih =>
  rw [List.cons_append] at h
  cases h with
  | term n _ u h =>
   obtain ⟨v, x, rfl, h1, h2⟩ := ih h
   exact ⟨n :: v, x, rfl, .term n _ _ h1, h2⟩
  | non q _ u1 u2 hq h1 h2 =>
   obtain ⟨v, x, rfl, h3, h4⟩ := ih h2
   exact ⟨u1 ++ v, x, by rw [List.append_assoc], .non q _ _ _ hq h1 h3, h4⟩
theorem DerW.one {g : Gram} {n : Int} {u : List Int} : DerW g [⟨false, n⟩] u ↔ ∃ q ∈ g.rules, q.left = n ∧ DerW g q.right u := by
 constructor
 ·intro h
  cases h with
  | non q _ u1 u2 hq h1 h2 =>
   cases h2
   rw [List.append_nil]
   exact ⟨q, hq, rfl, h1⟩
 ·rintro ⟨q, hq, rfl, h⟩
  have := DerW.non q [] u [] hq h .nil
  rwa [List.append_nil] at this
theorem DerW.cons2 {g : Gram} {s : Sym} {ss : List Sym} {u : List Int} : DerW g (s :: ss) u ↔ ∃ v x, u = v ++ x ∧ DerW g [s] v ∧ DerW g ss x := by
 constructor
 ·intro h
  exact DerW.split (ss := [s]) h
 ·rintro ⟨v, x, rfl, h1, h2⟩
  exact DerW.append h1 h2
theorem testBit_low {k a j : Nat} : (2 ^ k * a).testBit j = (decide (k ≤ j) && a.testBit (j - k)) := by
 rw [Nat.mul_comm, Nat.testBit_mul_two_pow]
theorem low_bit {x : Nat} (h0 : x ≠ 0) (h : x < 2 ^ 32) : x.testBit (Lib.ctz 32 x) = true ∧ (∀ j, (x &&& (x - 1)).testBit j = (x.testBit j && decide (j ≠ Lib.ctz 32 x))) ∧ x &&& (x - 1) < x := by
 obtain ⟨m, hm, hk⟩ := Lib.ctzFrom_spec 32 x (by omega) h
 have e : Lib.ctz 32 x = Lib.ctzFrom 32 x := by simp [Lib.ctz, h0]
 rw [e]
 generalize Lib.ctzFrom 32 x = k at hm hk
 have hp : 0 < 2 ^ k := Nat.two_pow_pos k
 have e1 : x - 1 = 2 ^ k * (2 * m) + (2 ^ k - 1) := by
  rw [hm, Nat.mul_add]; omega
 have hx : ∀ j, x.testBit j = (decide (k ≤ j) && (2 * m + 1).testBit (j - k)) := fun j => by rw [hm]; exact testBit_low
 have hy : ∀ j, k ≤ j → (x - 1).testBit j = (2 * m).testBit (j - k) := fun j hj => by
  rw [e1, Nat.testBit_two_pow_mul_add _ (by omega), if_neg (by omega)]
 have hd : ∀ i, (2 * m + 1).testBit (i + 1) = m.testBit i := fun i => by rw [Nat.testBit_succ]; congr 1; omega
 have hd2 : ∀ i, (2 * m).testBit (i + 1) = m.testBit i := fun i => by rw [Nat.testBit_succ]; congr 1; omega
 refine ⟨?_, fun j => ?_, ?_⟩
 ·rw [hx]
  simp [Nat.testBit_zero]
 ·rw [Nat.testBit_and, hx]
  by_cases hj : k ≤ j
  ·rw [hy j hj]
   by_cases he : j = k
   ·subst he
    simp [Nat.testBit_zero]
   ·obtain ⟨i, rfl⟩ : ∃ i, j = k + (i + 1) := ⟨j - k - 1, by omega⟩
    rw [show k + (i + 1) - k = i + 1 from by omega, hd, hd2]
    simp
  ·simp [hj]
 ·exact Nat.lt_of_le_of_lt Nat.and_le_right (by omega)
def mskAt (T : List (List Nat)) (n i : Nat) : Nat := (T.getD n []).getD i 0
def hopM (w : List Int) (T : List (List Nat)) (s : Sym) (p : Nat) : Nat := if s.term then (if w[p]? = some s.n then 2 ^ (p + 1) else 0) else mskAt T s.n.toNat p
def Hop (w : List Int) (T : List (List Nat)) (s : Sym) (p j : Nat) : Prop := (hopM w T s p).testBit j = true
def Way (w : List Int) (T : List (List Nat)) : List Sym → Nat → Nat → Prop
 | [], i, j => i = j
 | s :: ss, i, j => ∃ k, Hop w T s i k ∧ Way w T ss k j
theorem Way.snoc {w : List Int} {T : List (List Nat)} {s : Sym} : ∀ (ss : List Sym) (i j : Nat), Way w T (ss ++ [s]) i j ↔ ∃ k, Way w T ss i k ∧ Hop w T s k j
 | [], i, j => by
  constructor
  ·rintro ⟨k, h, rfl⟩
   exact ⟨i, rfl, h⟩
  ·rintro ⟨k, rfl, h⟩
   exact ⟨j, h, rfl⟩
 | r :: ss, i, j => by
  constructor
  ·rintro ⟨k, h, h2⟩
   obtain ⟨k2, h3, h4⟩ := (Way.snoc ss k j).1 h2
   exact ⟨k2, ⟨k, h, h3⟩, h4⟩
  ·rintro ⟨k, ⟨k2, h1, h2⟩, h3⟩
   exact ⟨k2, h1, (Way.snoc ss k2 j).2 ⟨k, h2, h3⟩⟩
structure MskS (m n : Nat) (T : List (List Nat)) : Prop where
 len : T.length = n
 rows : ∀ (i : Nat) (row : List Nat), T[i]? = some row → row.length = m + 1
 low : ∀ a i, mskAt T a i < 2 ^ (m + 1)
theorem hop_lt {w : List Int} {T : List (List Nat)} {n : Nat} (h : MskS w.length n T) (s : Sym) {p : Nat} : hopM w T s p < 2 ^ (w.length + 1) := by
 unfold hopM
 split
 ·split
  ·rename_i h1
   have := (List.getElem?_eq_some_iff.1 h1).1
   exact Nat.pow_lt_pow_right (by omega) (by omega)
  ·exact Nat.two_pow_pos _
 ·exact h.low _ _
theorem Hop.le {w : List Int} {T : List (List Nat)} {n : Nat} (h : MskS w.length n T) {s : Sym} {p j : Nat} (hh : Hop w T s p j) : j ≤ w.length := by
 apply Nat.le_of_not_lt
 intro hlt
 have h1 : hopM w T s p < 2 ^ j := Nat.lt_of_lt_of_le (hop_lt h s) (Nat.pow_le_pow_right (by omega) (by omega))
 have h2 := Nat.testBit_lt_two_pow h1
 unfold Hop at hh
 rw [h2] at hh
 cases hh
theorem Way.le {w : List Int} {T : List (List Nat)} {n : Nat} (h : MskS w.length n T) : ∀ (ss : List Sym) (i j : Nat), i ≤ w.length → Way w T ss i j → j ≤ w.length
 | [], i, j, hi, hh => by have : i = j := hh; omega
 | s :: ss, i, j, hi, hh => by
  obtain ⟨k, h1, h2⟩ := hh
  exact Way.le h ss k j (h1.le h) h2
def segW (w : List Int) (i j : Nat) : List Int := (w.drop i).take (j - i)
theorem segW_self (w : List Int) (i : Nat) : segW w i i = [] := by simp [segW]
theorem segW_app (w : List Int) {i k j : Nat} (h1 : i ≤ k) (h2 : k ≤ j) : segW w i k ++ segW w k j = segW w i j := by
 unfold segW
 rw [show w.drop k = (w.drop i).drop (k - i) from by rw [List.drop_drop]; congr 1; omega]
 rw [show j - i = (k - i) + (j - k) from by omega, List.take_add]
theorem segW_one (w : List Int) {i : Nat} {x : Int} (h : w[i]? = some x) : segW w i (i + 1) = [x] := by
 unfold segW
 rw [show i + 1 - i = 1 from by omega]
 obtain ⟨hlt, rfl⟩ := List.getElem?_eq_some_iff.1 h
 rw [List.drop_eq_getElem_cons hlt]
 rfl
theorem segW_len (w : List Int) {i j : Nat} (h1 : i ≤ j) (h2 : j ≤ w.length) : (segW w i j).length = j - i := by
 unfold segW
 rw [List.length_take, List.length_drop]
 omega
theorem segW_all (w : List Int) : segW w 0 w.length = w := by simp [segW]
def SndM (g : Gram) (w : List Int) (T : List (List Nat)) : Prop := ∀ a i j, i ≤ w.length → (mskAt T a i).testBit j = true → i ≤ j ∧ j ≤ w.length ∧ DerW g [⟨false, (a : Int)⟩] (segW w i j)
def ClAt (w : List Int) (T : List (List Nat)) (q : Rule) (i : Nat) : Prop := ∀ j, Way w T q.right i j → (mskAt T q.left.toNat i).testBit j = true
def ClM (g : Gram) (w : List Int) (T : List (List Nat)) : Prop := ∀ q ∈ g.rules, ∀ i, i ≤ w.length → ClAt w T q i
theorem way_sound {g : Gram} {w : List Int} {T : List (List Nat)} (h : SndM g w T) : ∀ (ss : List Sym) (i j : Nat), (∀ s ∈ ss, 0 ≤ s.n) → i ≤ w.length → Way w T ss i j → i ≤ j ∧ j ≤ w.length ∧ DerW g ss (segW w i j)
 | [], i, j, _, hi, hh => by
  have e : i = j := hh
  subst e
  exact ⟨Nat.le_refl _, hi, by rw [segW_self]; exact .nil⟩
 | ⟨st, sn⟩ :: ss, i, j, hs, hi, hh => by
  obtain ⟨k, h1, h2⟩ := hh
  have key : i ≤ k ∧ k ≤ w.length ∧ DerW g [⟨st, sn⟩] (segW w i k) := by
   unfold Hop hopM at h1
   cases st
   ·rw [if_neg (by simp)] at h1
    have h3 := h sn.toNat i k hi h1
    have h0 := hs ⟨false, sn⟩ (by simp)
    dsimp only at h0 h3
    rw [Int.toNat_of_nonneg h0] at h3
    exact h3
   ·rw [if_pos (by simp)] at h1
    dsimp only at h1
    split at h1
    ·rename_i h3
     rw [Nat.testBit_two_pow] at h1
     have e : i + 1 = k := by simpa using h1
     subst e
     have := (List.getElem?_eq_some_iff.1 h3).1
     refine ⟨by omega, by omega, ?_⟩
     rw [segW_one w h3]
     exact .term sn [] [] .nil
    ·simp at h1
  obtain ⟨k1, k2, k3⟩ := key
  obtain ⟨r1, r2, r3⟩ := way_sound h ss k j (fun s hm => hs s (by simp [hm])) k2 h2
  refine ⟨by omega, r2, ?_⟩
  rw [← segW_app w k1 r1]
  exact DerW.append (ss := [⟨st, sn⟩]) k3 r3
theorem way_complete {g : Gram} {w : List Int} {T : List (List Nat)} (h : ClM g w T) {ss : List Sym} {u : List Int} (hd : DerW g ss u) : ∀ (i j : Nat), i ≤ j → j ≤ w.length → u = segW w i j → Way w T ss i j := by
 induction hd with
 | nil =>
  intro i j h1 h2 h3
  have := congrArg List.length h3
  rw [segW_len w h1 h2] at this
  simp at this
  show i = j
  omega
 | term n ss u _ ih =>
  intro i j h1 h2 h3
  have hl := congrArg List.length h3
  rw [segW_len w h1 h2] at hl
  simp only [List.length_cons] at hl
  have hi : i < w.length := by omega
  have h4 := segW_app w (show i ≤ i + 1 by omega) (show i + 1 ≤ j by omega)
  rw [segW_one w (List.getElem?_eq_getElem hi), ← h3] at h4
  simp only [List.cons_append, List.nil_append, List.cons.injEq] at h4
  refine ⟨i + 1, ?_, ih (i + 1) j (by omega) h2 h4.2.symm⟩
  unfold Hop hopM
  rw [if_pos (by simp)]
  dsimp only
  rw [if_pos (by rw [List.getElem?_eq_getElem hi, h4.1]), Nat.testBit_two_pow]
  simp
 | non q ss u v hq _ _ ih1 ih2 =>
  intro i j h1 h2 h3
  have hl := congrArg List.length h3
  rw [segW_len w h1 h2, List.length_append] at hl
  have h4 := segW_app w (show i ≤ i + u.length by omega) (show i + u.length ≤ j by omega)
  rw [← h3] at h4
  have h5 := List.append_inj h4 (by rw [segW_len w (by omega) (by omega)]; omega)
  have w1 := ih1 i (i + u.length) (by omega) (by omega) h5.1.symm
  refine ⟨i + u.length, ?_, ih2 _ j (by omega) h2 h5.2.symm⟩
  unfold Hop hopM
  rw [if_neg (by simp)]
  exact h q hq i (by omega) _ w1
theorem acc_iff {g : Gram} {w : List Int} {T : List (List Nat)} {a : Nat} (hs : SndM g w T) (hc : ClM g w T) : (mskAt T a 0).testBit w.length = true ↔ DerW g [⟨false, (a : Int)⟩] w := by
 constructor
 ·intro h
  have h1 := (hs a 0 w.length (by omega) h).2.2
  rwa [segW_all] at h1
 ·intro h
  obtain ⟨k, h1, h2⟩ := way_complete hc h 0 w.length (by omega) (Nat.le_refl _) (segW_all w).symm
  have e : k = w.length := h2
  subst e
  unfold Hop hopM at h1
  rw [if_neg (by simp)] at h1
  simpa using h1
def setM (T : List (List Nat)) (a i x : Nat) : List (List Nat) := T.set a ((T.getD a []).set i x)
theorem mskAt_set {m n : Nat} {T : List (List Nat)} (h : MskS m n T) {a i x : Nat} (ha : a < n) (hi : i ≤ m) (b j : Nat) : mskAt (setM T a i x) b j = if b = a ∧ j = i then x else mskAt T b j := by
 obtain ⟨row, hrow⟩ := get_some (show a < T.length by rw [h.len]; exact ha)
 have hl := h.rows a row hrow
 have e1 : T.getD a [] = row := by rw [List.getD_eq_getElem?_getD, hrow]; rfl
 unfold mskAt setM
 rw [e1, List.getD_eq_getElem?_getD (l := T.set _ _), List.getElem?_set]
 by_cases e : a = b
 ·subst e
  rw [if_pos rfl, if_pos (by rw [h.len]; exact ha)]
  simp only [Option.getD_some, true_and]
  rw [List.getD_eq_getElem?_getD, List.getElem?_set, e1, List.getD_eq_getElem?_getD]
  by_cases e2 : i = j
  ·subst e2
   rw [if_pos rfl, if_pos (by omega)]
   simp
  ·rw [if_neg e2, if_neg (fun h => e2 h.symm)]
 ·rw [if_neg e, if_neg (fun h => e h.1.symm), ← List.getD_eq_getElem?_getD]
theorem MskS.set_ {m n : Nat} {T : List (List Nat)} (h : MskS m n T) {a i x : Nat} (ha : a < n) (hi : i ≤ m) (hx : x < 2 ^ (m + 1)) : MskS m n (setM T a i x) := by
 refine ⟨by unfold setM; rw [List.length_set]; exact h.len, fun b row hb => ?_, fun b j => ?_⟩
 ·unfold setM at hb
  rw [List.getElem?_set] at hb
  split at hb
  ·split at hb
   ·simp at hb
    subst hb
    obtain ⟨r2, hr2⟩ := get_some (show a < T.length by rw [h.len]; exact ha)
    rw [List.length_set, hr2]
    exact h.rows a r2 hr2
   ·cases hb
  ·exact h.rows b row hb
 ·rw [mskAt_set h ha hi]
  split
  ·exact hx
  ·exact h.low b j
theorem or_mono {x y : Nat} {j : Nat} (h : x.testBit j = true) : (x ||| y).testBit j = true := by rw [Nat.testBit_or, h]; rfl
theorem SndM.step {g : Gram} {w : List Int} {n : Nat} {T : List (List Nat)} (h : SndM g w T) (hS : MskS w.length n T) {q : Rule} (hq : q ∈ g.rules) (hq0 : 0 ≤ q.left) (hqn : q.left.toNat < n) (hs : ∀ s ∈ q.right, 0 ≤ s.n) {i x : Nat} (hi : i ≤ w.length) (hx : ∀ j, x.testBit j = true → Way w T q.right i j) :
  SndM g w (setM T q.left.toNat i (mskAt T q.left.toNat i ||| x)) := by
 intro b p j hp hj
 rw [mskAt_set hS hqn hi] at hj
 split at hj
 ·rename_i e
  obtain ⟨rfl, rfl⟩ := e
  rw [Nat.testBit_or, Bool.or_eq_true] at hj
  rcases hj with hj | hj
  ·exact h _ _ _ hp hj
  ·obtain ⟨r1, r2, r3⟩ := way_sound h q.right p j hs hi (hx j hj)
   refine ⟨r1, r2, DerW.one.2 ⟨q, hq, ?_, r3⟩⟩
   omega
 ·exact h b p j hp hj
def fuelM (T : List (List Nat)) : Nat := (T.map fun r => (r.map fun v => 8192 - v).sum).sum
theorem fsum_set : ∀ (l : List Nat) (i x y : Nat), l[i]? = some x → y < x → (l.set i y).sum < l.sum
 | [], i, x, y, h, _ => by simp at h
 | a :: l, 0, x, y, h, hy => by simp at h; subst h; simp; omega
 | a :: l, i + 1, x, y, h, hy => by
  have := fsum_set l i x y (by simpa using h) hy
  simp
  exact this
theorem fuel_set {m n : Nat} {T : List (List Nat)} (h : MskS m n T) (hm : m ≤ 12) {a i x : Nat} (ha : a < n) (hi : i ≤ m) (hx : mskAt T a i < x) (hx2 : x < 2 ^ (m + 1)) : fuelM (setM T a i x) < fuelM T := by
 obtain ⟨row, hrow⟩ := get_some (show a < T.length by rw [h.len]; exact ha)
 have hl := h.rows a row hrow
 obtain ⟨v, hv⟩ := get_some (show i < row.length by omega)
 have e1 : T.getD a [] = row := by rw [List.getD_eq_getElem?_getD, hrow]; rfl
 have e2 : mskAt T a i = v := by unfold mskAt; rw [e1, List.getD_eq_getElem?_getD, hv]; rfl
 have h13 : 2 ^ (m + 1) ≤ 2 ^ 13 := Nat.pow_le_pow_right (by omega) (by omega)
 have h14 : (2 : Nat) ^ 13 = 8192 := rfl
 unfold fuelM setM
 rw [e1, List.map_set]
 apply fsum_set _ _ ((row.map fun v => 8192 - v).sum)
 ·rw [List.getElem?_map, hrow]; rfl
 ·rw [List.map_set]
  apply fsum_set _ _ (8192 - v)
  ·rw [List.getElem?_map, hv]; rfl
  ·omega
theorem or_lt {m x y : Nat} (hx : x < 2 ^ m) (hy : y < 2 ^ m) : x ||| y < 2 ^ m := Nat.or_lt_two_pow hx hy
theorem andNot_bit {x y j : Nat} (hy : y < 2 ^ 32) (hj : j < 32) : (x &&& (4294967295 - y)).testBit j = (x.testBit j && !y.testBit j) := by
 rw [Nat.testBit_and, show 4294967295 - y = 2 ^ 32 - (y + 1) from by omega, Nat.testBit_two_pow_sub_succ hy]
 simp [hj]
theorem andNot_zero {x y : Nat} (hx : x < 2 ^ 32) (hy : y < 2 ^ 32) (h : x &&& (4294967295 - y) = 0) : ∀ j, x.testBit j = true → y.testBit j = true := by
 intro j hj
 have hj32 : j < 32 := by
  apply Nat.lt_of_not_le
  intro hle
  have h1 : x < 2 ^ j := Nat.lt_of_lt_of_le hx (Nat.pow_le_pow_right (by omega) hle)
  rw [Nat.testBit_lt_two_pow h1] at hj
  cases hj
 have h2 := andNot_bit (x := x) hy hj32
 rw [h, hj] at h2
 simpa using h2
theorem andNot_pos {x y : Nat} (hx : x < 2 ^ 32) (hy : y < 2 ^ 32) (h : x &&& (4294967295 - y) ≠ 0) : y < y ||| x := by
 apply Nat.lt_of_le_of_ne Nat.left_le_or
 intro e
 apply h
 apply Nat.eq_of_testBit_eq
 intro j
 rcases Nat.lt_or_ge j 32 with hj | hj
 ·rw [andNot_bit hy hj, Nat.zero_testBit]
  have h1 : (y ||| x).testBit j = y.testBit j := by rw [← e]
  rw [Nat.testBit_or] at h1
  cases hyj : y.testBit j <;> cases hxj : x.testBit j <;> rw [hyj, hxj] at h1 <;> first | rfl | cases h1
 ·rw [Nat.zero_testBit]
  exact Nat.testBit_lt_two_pow (Nat.lt_of_le_of_lt Nat.and_le_left (Nat.lt_of_lt_of_le hx (Nat.pow_le_pow_right (by omega) hj)))
theorem mskAt_init (n m a i : Nat) : mskAt (List.replicate n (List.replicate (m + 1) 0)) a i = 0 := by
 unfold mskAt
 have e : (List.replicate n (List.replicate (m + 1) 0)).getD a [] = if a < n then List.replicate (m + 1) 0 else [] := by
  rw [List.getD_eq_getElem?_getD, List.getElem?_replicate]
  split <;> rfl
 rw [e]
 split
 ·rw [List.getD_eq_getElem?_getD, List.getElem?_replicate]
  split <;> rfl
 ·rfl
theorem MskS.init (n m : Nat) : MskS m n (List.replicate n (List.replicate (m + 1) 0)) :=
 ⟨by simp, fun i row h => (by
  rw [List.getElem?_replicate] at h
  split at h
  ·simp at h
   rw [← h]
   simp
  ·cases h), fun a i => (by rw [mskAt_init]; exact Nat.two_pow_pos _)⟩
theorem SndM.init (g : Gram) (w : List Int) (n : Nat) : SndM g w (List.replicate n (List.replicate (w.length + 1) 0)) := fun a i j _ h => by
 rw [mskAt_init] at h
 simp at h
end Go.Proofs.Ytjdojogjogenkaa
/- The plain law of mean.Count: the count of a forest's node is the number of its trees, limited, and a cycle that is reached makes infinitely many. No program is named here. -/
namespace Go.Proofs.Ytjdojogjogenkaa
set_option linter.unusedVariables false
def CntIs (P : Tree → Prop) (c : Int) : Prop :=
 (c = -1 ∧ ∀ N : Nat, ∃ t, P t ∧ N ≤ nodesT t) ∨ ∃ L : List Tree, L.Nodup ∧ (∀ t, t ∈ L ↔ P t) ∧ c = ((min L.length 1000000000 : Nat) : Int)
def TreesOf (g : Gram) (w : List Int) (t : Tree) : Prop := vt g t ⟨false, g.start⟩ ∧ yieldT t = w
theorem nodup_leC {α : Type} : ∀ (l m : List α), l.Nodup → (∀ x ∈ l, x ∈ m) → l.length ≤ m.length
 | [], m, _, _ => by simp
 | x :: l, m, hn, h => by
  obtain ⟨a, b, rfl⟩ := List.append_of_mem (h x (by simp))
  rw [List.nodup_cons] at hn
  have h2 := nodup_leC l (a ++ b) hn.2 (fun y hy => by
   have h3 := h y (by simp [hy])
   simp only [List.mem_append, List.mem_cons] at h3 ⊢
   rcases h3 with h3 | h3 | h3
   ·exact .inl h3
   ·subst h3; exact absurd hy hn.1
   ·exact .inr h3)
  simp only [List.length_append, List.length_cons] at h2 ⊢
  omega
theorem nodup_map {α β : Type} (f : α → β) : ∀ (l : List α), l.Nodup → (∀ x ∈ l, ∀ y ∈ l, f x = f y → x = y) → (l.map f).Nodup
 | [], _, _ => by simp
 | x :: l, hn, h => by
  rw [List.nodup_cons] at hn
  rw [List.map_cons, List.nodup_cons]
  refine ⟨fun hm => ?_, nodup_map f l hn.2 (fun a ha b hb => h a (by simp [ha]) b (by simp [hb]))⟩
  obtain ⟨y, hy, e⟩ := List.mem_map.1 hm
  have := h y (by simp [hy]) x (by simp) e
  subst this
  exact hn.1 hy
theorem nodes_bound : ∀ (L : List Tree), ∃ N : Nat, ∀ t ∈ L, nodesT t < N
 | [] => ⟨0, by simp⟩
 | x :: L => by
  obtain ⟨N, h⟩ := nodes_bound L
  refine ⟨N + nodesT x + 1, fun t ht => ?_⟩
  rcases List.mem_cons.1 ht with rfl | ht
  ·omega
  ·have := h t ht; omega
theorem CntIs.le {P Q : Tree → Prop} (f : Tree → Tree) (hf : ∀ t, P t → Q (f t)) (hi : ∀ t u, P t → P u → f t = f u → t = u) {L M : List Tree} (hn : L.Nodup) (hL : ∀ t, t ∈ L ↔ P t) (hM : ∀ t, t ∈ M ↔ Q t) : L.length ≤ M.length := by
 have h := nodup_leC (L.map f) M (nodup_map f L hn (fun x hx y hy => hi x y ((hL x).1 hx) ((hL y).1 hy))) (fun y hy => by
  obtain ⟨x, hx, rfl⟩ := List.mem_map.1 hy
  exact (hM _).2 (hf x ((hL x).1 hx)))
 rwa [List.length_map] at h
theorem CntIs.bij {P Q : Tree → Prop} (f k : Tree → Tree) (hf : ∀ t, P t → Q (f t) ∧ k (f t) = t) (hk : ∀ t, Q t → P (k t) ∧ f (k t) = t) {a b : Int} (ha : CntIs P a) (hb : CntIs Q b) : a = b := by
 rcases ha with ⟨rfl, ha⟩ | ⟨L, hLn, hL, rfl⟩ <;> rcases hb with ⟨rfl, hb⟩ | ⟨M, hMn, hM, rfl⟩
 ·rfl
 ·exfalso
  obtain ⟨N, hN⟩ := nodes_bound (M.map k)
  obtain ⟨t, h1, h2⟩ := ha N
  have := hN t (List.mem_map.2 ⟨f t, (hM _).2 (hf t h1).1, (hf t h1).2⟩)
  omega
 ·exfalso
  obtain ⟨N, hN⟩ := nodes_bound (L.map f)
  obtain ⟨t, h1, h2⟩ := hb N
  have := hN t (List.mem_map.2 ⟨k t, (hL _).2 (hk t h1).1, (hk t h1).2⟩)
  omega
 ·have h1 := CntIs.le f (fun t h => (hf t h).1) (fun t u ht hu e => by rw [← (hf t ht).2, ← (hf u hu).2, e]) hLn hL hM
  have h2 := CntIs.le k (fun t h => (hk t h).1) (fun t u ht hu e => by rw [← (hk t ht).2, ← (hk u hu).2, e]) hMn hM hL
  rw [show L.length = M.length by omega]
theorem CntIs.congr {P Q : Tree → Prop} (h : ∀ t, P t ↔ Q t) {a b : Int} (ha : CntIs P a) (hb : CntIs Q b) : a = b :=
 CntIs.bij id id (fun t ht => ⟨(h t).1 ht, rfl⟩) (fun t ht => ⟨(h t).2 ht, rfl⟩) ha hb
structure NKey where
 sym : Sym
 fr : Nat
 to : Nat
 deriving DecidableEq
def TAt (g : Gram) (w : List Int) (k : NKey) (t : Tree) : Prop := vt g t k.sym ∧ yieldT t = segW w k.fr k.to
def TsAt (g : Gram) (w : List Int) : List NKey → List Tree → Prop
 | [], [] => True
 | k :: l, t :: ts => TAt g w k t ∧ TsAt g w l ts
 | [], _ :: _ => False
 | _ :: _, [] => False
def waysL (w : List Int) (T : List (List Nat)) : List Sym → Nat → Nat → List (List NKey)
 | [], f, t => if f = t then [[]] else []
 | s :: ss, f, t => (List.range (t + 1)).flatMap fun m => if (hopM w T s f).testBit m = true then (waysL w T ss m t).map (fun l => ⟨s, f, m⟩ :: l) else []
def IsWay (w : List Int) (T : List (List Nat)) : List Sym → Nat → Nat → List NKey → Prop
 | [], f, t, l => f = t ∧ l = []
 | s :: ss, f, t, l => ∃ m l', m ≤ t ∧ Hop w T s f m ∧ l = ⟨s, f, m⟩ :: l' ∧ IsWay w T ss m t l'
theorem mem_ways {w : List Int} {T : List (List Nat)} : ∀ (ss : List Sym) (f t : Nat) (l : List NKey), l ∈ waysL w T ss f t ↔ IsWay w T ss f t l
 | [], f, t, l => by
  unfold waysL IsWay
  split
  ·rename_i h; simp [h]
  ·rename_i h; simp [h]
 | s :: ss, f, t, l => by
  unfold waysL IsWay
  rw [List.mem_flatMap]
  constructor
  ·rintro ⟨m, hm, hl⟩
   rw [List.mem_range] at hm
   split at hl
   ·rename_i hh
    obtain ⟨l', h1, rfl⟩ := List.mem_map.1 hl
    exact ⟨m, l', by omega, hh, rfl, (mem_ways ss m t l').1 h1⟩
   ·simp at hl
  ·rintro ⟨m, l', h1, h2, rfl, h3⟩
   refine ⟨m, List.mem_range.2 (by omega), ?_⟩
   rw [if_pos (show (hopM w T s f).testBit m = true from h2)]
   exact List.mem_map.2 ⟨l', (mem_ways ss m t l').2 h3, rfl⟩
theorem ways_nodup (w : List Int) (T : List (List Nat)) : ∀ (ss : List Sym) (f t : Nat), (waysL w T ss f t).Nodup
 | [], f, t => by unfold waysL; split <;> simp
 | s :: ss, f, t => by
  unfold waysL
  rw [List.Nodup, List.pairwise_flatMap]
  refine ⟨fun m hm => ?_, ?_⟩
  ·split
   ·exact nodup_map _ _ (ways_nodup w T ss m t) (fun x _ y _ h => by injection h)
   ·exact List.Pairwise.nil
  ·refine List.Pairwise.imp ?_ (List.nodup_range (n := t + 1))
   intro a b hab x hx y hy e
   subst e
   split at hx
   ·split at hy
    ·obtain ⟨l1, _, rfl⟩ := List.mem_map.1 hx
     obtain ⟨l2, _, e⟩ := List.mem_map.1 hy
     injection e with e1 _
     injection e1 with _ _ e2
     exact hab e2.symm
    ·simp at hy
   ·simp at hx
theorem IsWay.way {w : List Int} {T : List (List Nat)} : ∀ (ss : List Sym) (f t : Nat) (l : List NKey), IsWay w T ss f t l → Way w T ss f t
 | [], f, t, l, h => h.1
 | s :: ss, f, t, l, ⟨m, l', _, h1, _, h2⟩ => ⟨m, h1, IsWay.way ss m t l' h2⟩
structure GoodK (w : List Int) (T : List (List Nat)) (k : NKey) : Prop where
 le : k.fr ≤ k.to
 len : k.to ≤ w.length
 n0 : 0 ≤ k.sym.n
 hop : Hop w T k.sym k.fr k.to
section
variable {g : Gram} {w : List Int} {T : List (List Nat)}
theorem hop_sound (hS : SndM g w T) {s : Sym} {f m : Nat} (h0 : 0 ≤ s.n) (hf : f ≤ w.length) (h : Hop w T s f m) : f ≤ m ∧ m ≤ w.length ∧ DerW g [s] (segW w f m) :=
 way_sound hS [s] f m (fun x hx => by simp at hx; subst hx; exact h0) hf ⟨m, h, rfl⟩
theorem GoodK.tree (hS : SndM g w T) (hr : ∀ q ∈ g.rules, 0 ≤ q.left) {k : NKey} (h : GoodK w T k) : ∃ t, TAt g w k t := by
 obtain ⟨_, _, hd⟩ := hop_sound hS h.n0 (Nat.le_trans h.le h.len) h.hop
 obtain ⟨ks, h1, h2⟩ := trees_of_der hd hr
 cases ks with
 | nil => unfold vts at h1; exact h1.elim
 | cons t ks =>
  cases ks with
  | nil =>
   unfold vts at h1
   refine ⟨t, h1.1, ?_⟩
   simpa [yields] using h2
  | cons t2 ks => unfold vts at h1; have := h1.2; unfold vts at this; exact this.elim
theorem way_good (hS : SndM g w T) : ∀ (ss : List Sym) (f t : Nat) (l : List NKey), (∀ s ∈ ss, 0 ≤ s.n) → f ≤ w.length → IsWay w T ss f t l → ∀ k ∈ l, GoodK w T k
 | [], f, t, l, _, _, h, k, hk => by rw [h.2] at hk; simp at hk
 | s :: ss, f, t, l, hs, hf, ⟨m, l', _, h1, e, h2⟩, k, hk => by
  subst e
  obtain ⟨h3, h4, _⟩ := hop_sound hS (hs s (by simp)) hf h1
  rcases List.mem_cons.1 hk with rfl | hk
  ·exact ⟨h3, h4, hs s (by simp), h1⟩
  ·exact way_good hS ss m t l' (fun x hx => hs x (by simp [hx])) h4 h2 k hk
theorem ways_sound (hS : SndM g w T) : ∀ (ss : List Sym) (f t : Nat) (l : List NKey) (ts : List Tree), (∀ s ∈ ss, 0 ≤ s.n) → f ≤ w.length → IsWay w T ss f t l → TsAt g w l ts → vts g ts ss ∧ yields ts = segW w f t ∧ f ≤ t
 | [], f, t, l, ts, _, _, h, h2 => by
  obtain ⟨rfl, rfl⟩ := h
  cases ts with
  | nil => unfold vts; exact ⟨trivial, by rw [segW_self]; rfl, Nat.le_refl _⟩
  | cons x ts => unfold TsAt at h2; exact h2.elim
 | s :: ss, f, t, l, ts, hs, hf, ⟨m, l', hmt, h1, e, h2⟩, h3 => by
  subst e
  cases ts with
  | nil => unfold TsAt at h3; exact h3.elim
  | cons x ts =>
   unfold TsAt at h3
   obtain ⟨h4, h5, _⟩ := hop_sound hS (hs s (by simp)) hf h1
   obtain ⟨h6, h7, h8⟩ := ways_sound hS ss m t l' ts (fun x hx => hs x (by simp [hx])) h5 h2 h3.2
   unfold vts yields
   refine ⟨⟨h3.1.1, h6⟩, ?_, by omega⟩
   rw [h3.1.2, h7]
   exact segW_app w h4 h8
theorem ways_complete (hc : ClM g w T) : ∀ (ss : List Sym) (f t : Nat) (ts : List Tree), f ≤ t → t ≤ w.length → vts g ts ss → yields ts = segW w f t → ∃ l, IsWay w T ss f t l ∧ TsAt g w l ts
 | [], f, t, ts, h1, h2, h3, h4 => by
  cases ts with
  | nil =>
   have := congrArg List.length h4
   rw [segW_len w h1 h2] at this
   simp [yields] at this
   exact ⟨[], ⟨by omega, rfl⟩, by unfold TsAt; trivial⟩
  | cons x ts => unfold vts at h3; exact h3.elim
 | s :: ss, f, t, ts, h1, h2, h3, h4 => by
  cases ts with
  | nil => unfold vts at h3; exact h3.elim
  | cons x ts =>
   unfold vts at h3
   unfold yields at h4
   have hl := congrArg List.length h4
   rw [segW_len w h1 h2, List.length_append] at hl
   have h5 := segW_app w (show f ≤ f + (yieldT x).length by omega) (show f + (yieldT x).length ≤ t by omega)
   rw [← h4] at h5
   have h6 := List.append_inj h5 (by rw [segW_len w (by omega) (by omega)]; omega)
   have hd := der_of_tree x s h3.1 [] [] .nil
   rw [List.append_nil] at hd
   obtain ⟨m, hm, e⟩ := way_complete hc hd f (f + (yieldT x).length) (by omega) (by omega) h6.1.symm
   have e : m = f + (yieldT x).length := e
   subst e
   obtain ⟨l, h7, h8⟩ := ways_complete hc ss (f + (yieldT x).length) t ts (by omega) h2 h3.2 h6.2.symm
   refine ⟨⟨s, f, f + (yieldT x).length⟩ :: l, ⟨_, l, by omega, hm, rfl, h7⟩, ?_⟩
   unfold TsAt
   exact ⟨⟨h3.1, h6.1.symm⟩, h8⟩
theorem ways_uniq (hS : SndM g w T) : ∀ (ss : List Sym) (f t : Nat) (l l' : List NKey) (ts : List Tree), (∀ s ∈ ss, 0 ≤ s.n) → f ≤ w.length → IsWay w T ss f t l → IsWay w T ss f t l' → TsAt g w l ts → TsAt g w l' ts → l = l'
 | [], f, t, l, l', ts, _, _, h, h', _, _ => by rw [h.2, h'.2]
 | s :: ss, f, t, l, l', ts, hs, hf, ⟨m, a, _, h1, e, h2⟩, ⟨m', a', _, h1', e', h2'⟩, h3, h3' => by
  subst e; subst e'
  cases ts with
  | nil => unfold TsAt at h3; exact h3.elim
  | cons x ts =>
   unfold TsAt at h3 h3'
   obtain ⟨h4, h5, _⟩ := hop_sound hS (hs s (by simp)) hf h1
   obtain ⟨h4', h5', _⟩ := hop_sound hS (hs s (by simp)) hf h1'
   have e1 := h3.1.2.symm.trans h3'.1.2
   have e2 := congrArg List.length e1
   dsimp only at e2
   rw [segW_len w h4 h5, segW_len w h4' h5'] at e2
   have e3 : m = m' := by omega
   subst e3
   rw [ways_uniq hS ss m t a a' ts (fun x hx => hs x (by simp [hx])) h5 h2 h2' h3.2 h3'.2]
def packsL (g : Gram) (w : List Int) (T : List (List Nat)) (k : NKey) : List (Nat × List NKey) :=
 if k.sym.term then [] else g.rules.zipIdx.flatMap fun x => if x.1.left = k.sym.n then (waysL w T x.1.right k.fr k.to).map (fun l => (x.2, l)) else []
theorem mem_packs {k : NKey} {p : Nat × List NKey} : p ∈ packsL g w T k ↔ k.sym.term = false ∧ ∃ q, g.rules[p.1]? = some q ∧ q.left = k.sym.n ∧ IsWay w T q.right k.fr k.to p.2 := by
 unfold packsL
 split
 ·rename_i h; simp [h]
 ·rename_i h
  rw [List.mem_flatMap]
  constructor
  ·rintro ⟨⟨q, i⟩, h1, h2⟩
   have h3 := List.mem_zipIdx_iff_getElem?.1 h1
   dsimp only at h2 h3
   split at h2
   ·rename_i h4
    obtain ⟨l, h5, rfl⟩ := List.mem_map.1 h2
    exact ⟨by simpa using h, q, by simpa using h3, h4, (mem_ways _ _ _ _).1 h5⟩
   ·simp at h2
  ·rintro ⟨_, q, h1, h2, h3⟩
   refine ⟨(q, p.1), List.mem_zipIdx_iff_getElem?.2 (by simpa using h1), ?_⟩
   dsimp only
   rw [if_pos h2]
   exact List.mem_map.2 ⟨p.2, (mem_ways _ _ _ _).2 h3, rfl⟩
theorem zipIdx_pair {α : Type} : ∀ (l : List α) (n : Nat), (l.zipIdx n).Pairwise (fun a b => a.2 ≠ b.2)
 | [], n => by simp
 | x :: l, n => by
  rw [List.zipIdx_cons, List.pairwise_cons]
  refine ⟨fun b hb => ?_, zipIdx_pair l (n + 1)⟩
  obtain ⟨y, i⟩ := b
  have := (List.mem_zipIdx hb).1
  dsimp only at this ⊢
  omega
theorem packs_nodup (k : NKey) : (packsL g w T k).Nodup := by
 unfold packsL
 split
 ·simp
 ·rw [List.Nodup, List.pairwise_flatMap]
  refine ⟨fun x hx => ?_, ?_⟩
  ·split
   ·exact nodup_map _ _ (ways_nodup w T _ _ _) (fun x _ y _ h => by injection h)
   ·exact List.Pairwise.nil
  ·refine List.Pairwise.imp ?_ (zipIdx_pair g.rules 0)
   intro a b hab x hx y hy e
   subst e
   split at hx
   ·split at hy
    ·obtain ⟨l1, _, rfl⟩ := List.mem_map.1 hx
     obtain ⟨l2, _, e⟩ := List.mem_map.1 hy
     injection e with e1 _
     exact hab e1.symm
    ·simp at hy
   ·simp at hx
theorem tree_pack (hS : SndM g w T) (hc : ClM g w T) (hs : ∀ q ∈ g.rules, ∀ s ∈ q.right, 0 ≤ s.n) {k : NKey} (hk : k.sym.term = false) (hle : k.fr ≤ k.to) (hlen : k.to ≤ w.length) (t : Tree) :
  TAt g w k t ↔ ∃ p ∈ packsL g w T k, ∃ ts, t = ⟨(p.1 : Int), 0, ts⟩ ∧ TsAt g w p.2 ts := by
 constructor
 ·rintro ⟨h1, h2⟩
  obtain ⟨r, tt, ks⟩ := t
  unfold vt at h1
  rw [if_neg (by simp [hk])] at h1
  obtain ⟨rfl, hr, q, hq, hql, hks⟩ := h1
  have hy : yields ks = segW w k.fr k.to := by
   rw [← h2]; unfold yieldT; rw [if_neg (by omega)]
  obtain ⟨l, h3, h4⟩ := ways_complete hc q.right k.fr k.to ks hle hlen hks hy
  refine ⟨(r.toNat, l), mem_packs.2 ⟨hk, q, hq, hql, h3⟩, ks, ?_, h4⟩
  dsimp only
  rw [Int.toNat_of_nonneg hr]
 ·rintro ⟨p, hp, ts, rfl, h2⟩
  obtain ⟨_, q, hq, hql, h3⟩ := mem_packs.1 hp
  obtain ⟨h4, h5, _⟩ := ways_sound hS q.right k.fr k.to p.2 ts (hs q (List.mem_of_getElem? hq)) (by omega) h3 h2
  refine ⟨?_, ?_⟩
  ·unfold vt
   rw [if_neg (by simp [hk])]
   exact ⟨rfl, by omega, q, by simpa using hq, hql, h4⟩
  ·unfold yieldT
   rw [if_neg (by omega)]
   exact h5
theorem pack_uniq (hS : SndM g w T) (hs : ∀ q ∈ g.rules, ∀ s ∈ q.right, 0 ≤ s.n) {k : NKey} (hf : k.fr ≤ w.length) {p p' : Nat × List NKey} (hp : p ∈ packsL g w T k) (hp' : p' ∈ packsL g w T k) {ts ts' : List Tree} (h : TsAt g w p.2 ts) (h' : TsAt g w p'.2 ts') (e : (⟨(p.1 : Int), 0, ts⟩ : Tree) = ⟨(p'.1 : Int), 0, ts'⟩) : p = p' := by
 injection e with e1 _ e2
 subst e2
 obtain ⟨i, l⟩ := p
 obtain ⟨i', l'⟩ := p'
 have e3 : i = i' := by dsimp only at e1; omega
 subst e3
 obtain ⟨_, q, hq, _, h1⟩ := mem_packs.1 hp
 obtain ⟨_, q', hq', _, h2⟩ := mem_packs.1 hp'
 have e4 : q = q' := by rw [hq] at hq'; injection hq'
 subst e4
 rw [ways_uniq hS q.right k.fr k.to l l' ts (hs q (List.mem_of_getElem? hq)) hf h1 h2 h h']
def lim : Nat := 1000000000
def CntK (g : Gram) (w : List Int) (k : NKey) (c : Nat) : Prop := ∃ L : List Tree, L.Nodup ∧ (∀ t, t ∈ L ↔ TAt g w k t) ∧ c = min L.length lim
theorem min_mul (a b m : Nat) : min (min a m * min b m) m = min (a * b) m := by
 rcases Nat.le_total a m with ha | ha <;> rcases Nat.le_total b m with hb | hb
 ·rw [Nat.min_eq_left ha, Nat.min_eq_left hb]
 ·rw [Nat.min_eq_left ha, Nat.min_eq_right hb]
  rcases Nat.eq_zero_or_pos a with rfl | h
  ·simp
  ·rw [Nat.min_eq_right (Nat.le_mul_of_pos_left m h), Nat.min_eq_right (Nat.le_trans hb (Nat.le_mul_of_pos_left b h))]
 ·rw [Nat.min_eq_right ha, Nat.min_eq_left hb]
  rcases Nat.eq_zero_or_pos b with rfl | h
  ·simp
  ·rw [Nat.min_eq_right (Nat.le_mul_of_pos_right m h), Nat.min_eq_right (Nat.le_trans ha (Nat.le_mul_of_pos_right a h))]
 ·rw [Nat.min_eq_right ha, Nat.min_eq_right hb]
  rcases Nat.eq_zero_or_pos m with rfl | h
  ·simp
  ·rw [Nat.min_eq_right (Nat.le_mul_of_pos_left m h), Nat.min_eq_right (Nat.le_trans hb (Nat.le_mul_of_pos_left b (by omega)))]
theorem min_add (a b m : Nat) : min (min a m + min b m) m = min (a + b) m := by omega
def prodM (f : Nat → Nat) (x : Nat) (l : List Int) : Nat := l.foldl (fun x k => min (x * f k.toNat) lim) x
def sumM (f : Nat → Nat) (x : Nat) (l : List (List Int)) : Nat := l.foldl (fun a p => min (a + prodM f 1 p) lim) x
def Kids (ks : List NKey) : List Int → List NKey → Prop
 | [], [] => True
 | i :: is, k :: l => 0 ≤ i ∧ ks[i.toNat]? = some k ∧ Kids ks is l
 | [], _ :: _ => False
 | _ :: _, [] => False
theorem Kids.get {ks : List NKey} : ∀ {is : List Int} {l : List NKey}, Kids ks is l → ∀ {k : NKey}, k ∈ l → ∃ i ∈ is, 0 ≤ i ∧ ks[i.toNat]? = some k
 | [], [], _, k, hk => by simp at hk
 | i :: is, k' :: l, h, k, hk => by
  unfold Kids at h
  rcases List.mem_cons.1 hk with rfl | hk
  ·exact ⟨i, by simp, h.1, h.2.1⟩
  ·obtain ⟨j, h1, h2⟩ := Kids.get h.2.2 hk
   exact ⟨j, by simp [h1], h2⟩
 | [], _ :: _, h, _, _ => by unfold Kids at h; exact h.elim
 | _ :: _, [], h, _, _ => by unfold Kids at h; exact h.elim
theorem Kids.get' {ks : List NKey} : ∀ {is : List Int} {l : List NKey}, Kids ks is l → ∀ {i : Int}, i ∈ is → ∃ k ∈ l, 0 ≤ i ∧ ks[i.toNat]? = some k
 | [], [], _, i, hi => by simp at hi
 | i :: is, k' :: l, h, j, hj => by
  unfold Kids at h
  rcases List.mem_cons.1 hj with rfl | hj
  ·exact ⟨k', by simp, h.1, h.2.1⟩
  ·obtain ⟨j', h1, h2⟩ := Kids.get' h.2.2 hj
   exact ⟨j', by simp [h1], h2⟩
 | [], _ :: _, h, _, _ => by unfold Kids at h; exact h.elim
 | _ :: _, [], h, _, _ => by unfold Kids at h; exact h.elim
theorem prod_trees {ks : List NKey} {f : Nat → Nat} : ∀ (is : List Int) (l : List NKey), Kids ks is l → (∀ i ∈ is, ∀ k, ks[i.toNat]? = some k → CntK g w k (f i.toNat)) →
  ∃ LL : List (List Tree), LL.Nodup ∧ (∀ ts, ts ∈ LL ↔ TsAt g w l ts) ∧ ∀ a, prodM f (min a lim) is = min (a * LL.length) lim
 | [], [], _, _ => ⟨[[]], by simp, fun ts => by cases ts <;> simp [TsAt], fun a => by simp [prodM]⟩
 | i :: is, k :: l, h, hc => by
  unfold Kids at h
  obtain ⟨L, h1, h2, h3⟩ := hc i (by simp) k h.2.1
  obtain ⟨LL, h4, h5, h6⟩ := prod_trees is l h.2.2 (fun j hj => hc j (by simp [hj]))
  refine ⟨L.flatMap fun t => LL.map (fun ts => t :: ts), ?_, fun ts => ?_, fun a => ?_⟩
  ·rw [List.Nodup, List.pairwise_flatMap]
   refine ⟨fun t _ => nodup_map _ _ h4 (fun x _ y _ e => by injection e), ?_⟩
   refine List.Pairwise.imp ?_ h1
   intro a b hab x hx y hy e
   subst e
   obtain ⟨l1, _, rfl⟩ := List.mem_map.1 hx
   obtain ⟨l2, _, e⟩ := List.mem_map.1 hy
   injection e with e1 _
   exact hab e1.symm
  ·rw [List.mem_flatMap]
   constructor
   ·rintro ⟨t, ht, hts⟩
    obtain ⟨l1, h7, rfl⟩ := List.mem_map.1 hts
    unfold TsAt
    exact ⟨(h2 t).1 ht, (h5 l1).1 h7⟩
   ·intro h7
    cases ts with
    | nil => unfold TsAt at h7; exact h7.elim
    | cons t ts =>
     unfold TsAt at h7
     exact ⟨t, (h2 t).2 h7.1, List.mem_map.2 ⟨ts, (h5 ts).2 h7.2, rfl⟩⟩
  ·have hl : (L.flatMap fun t => LL.map (fun ts => t :: ts)).length = L.length * LL.length := by
    rw [List.length_flatMap]
    simp only [List.length_map]
    clear h1 h2 h3
    induction L with
    | nil => simp
    | cons x L ih => rw [List.map_cons, List.sum_cons, ih, List.length_cons, Nat.add_mul]; omega
   rw [hl]
   show prodM f (min (min a lim * f i.toNat) lim) is = _
   rw [h3, min_mul, h6, Nat.mul_assoc]
 | [], _ :: _, h, _ => by unfold Kids at h; exact h.elim
 | _ :: _, [], h, _ => by unfold Kids at h; exact h.elim
structure FPack where
 rule : Int
 kids : List Int
structure FNode where
 sym : Sym
 fr : Int
 to : Int
 packs : List FPack
def PackIs (ks : List NKey) (a : FPack) (b : Nat × List NKey) : Prop := a.rule = (b.1 : Int) ∧ Kids ks a.kids b.2
def PacksAre (ks : List NKey) : List FPack → List (Nat × List NKey) → Prop
 | [], [] => True
 | a :: al, b :: bs => PackIs ks a b ∧ PacksAre ks al bs
 | [], _ :: _ => False
 | _ :: _, [] => False
theorem PacksAre.get {ks : List NKey} : ∀ {al : List FPack} {bs : List (Nat × List NKey)}, PacksAre ks al bs → ∀ {a}, a ∈ al → ∃ b ∈ bs, PackIs ks a b
 | [], [], _, k, hk => by simp at hk
 | i :: is, k' :: l, h, k, hk => by
  unfold PacksAre at h
  rcases List.mem_cons.1 hk with rfl | hk
  ·exact ⟨k', by simp, h.1⟩
  ·obtain ⟨j, h1, h2⟩ := PacksAre.get h.2 hk
   exact ⟨j, by simp [h1], h2⟩
 | [], _ :: _, h, _, _ => by unfold PacksAre at h; exact h.elim
 | _ :: _, [], h, _, _ => by unfold PacksAre at h; exact h.elim
structure ForestIs (g : Gram) (w : List Int) (T : List (List Nat)) (ks : List NKey) (F : List FNode) : Prop where
 len : F.length = ks.length
 good : ∀ k ∈ ks, GoodK w T k
 node : ∀ (v : Nat) (k : NKey) (nd : FNode), ks[v]? = some k → F[v]? = some nd → nd.sym = k.sym ∧ ∃ pl, pl.Perm (packsL g w T k) ∧ PacksAre ks nd.packs pl
def valN (nd : FNode) (f : Nat → Nat) : Nat := sumM f (if nd.sym.term then 1 else 0) (nd.packs.map (·.kids))
inductive Cn (F : List FNode) : Nat → Nat → Prop
 | mk (v : Nat) (nd : FNode) (f : Nat → Nat) (hv : F[v]? = some nd) (h : ∀ p ∈ nd.packs, ∀ k ∈ p.kids, Cn F k.toNat (f k.toNat)) : Cn F v (valN nd f)
theorem sum_trees (hS : SndM g w T) (hs : ∀ q ∈ g.rules, ∀ s ∈ q.right, 0 ≤ s.n) {ks : List NKey} {f : Nat → Nat} {k : NKey} (hf : k.fr ≤ w.length) : ∀ (al : List FPack) (bs : List (Nat × List NKey)), PacksAre ks al bs → bs.Nodup → (∀ b ∈ bs, b ∈ packsL g w T k) →
  (∀ p ∈ al, ∀ i ∈ p.kids, ∀ k, ks[i.toNat]? = some k → CntK g w k (f i.toNat)) →
  ∃ L : List Tree, L.Nodup ∧ (∀ t, t ∈ L ↔ ∃ p ∈ bs, ∃ ts, t = ⟨(p.1 : Int), 0, ts⟩ ∧ TsAt g w p.2 ts) ∧ ∀ a, sumM f (min a lim) (al.map (·.kids)) = min (a + L.length) lim
 | [], [], _, _, _, _ => ⟨[], by simp, fun t => by simp, fun a => by simp [sumM]⟩
 | a :: al, b :: bs, h, hn, hb, hc => by
  unfold PacksAre at h
  rw [List.nodup_cons] at hn
  obtain ⟨L, h1, h2, h3⟩ := sum_trees hS hs hf al bs h.2 hn.2 (fun x hx => hb x (by simp [hx])) (fun p hp => hc p (by simp [hp]))
  obtain ⟨LL, h4, h5, h6⟩ := prod_trees a.kids b.2 h.1.2 (hc a (by simp))
  refine ⟨LL.map (fun ts => (⟨(b.1 : Int), 0, ts⟩ : Tree)) ++ L, ?_, fun t => ?_, fun x => ?_⟩
  ·rw [List.nodup_append]
   refine ⟨nodup_map _ _ h4 (fun x _ y _ e => by injection e), h1, ?_⟩
   intro t ht u hu e
   subst e
   obtain ⟨ts, h7, rfl⟩ := List.mem_map.1 ht
   obtain ⟨p, hp, ts', e, h8⟩ := (h2 _).1 hu
   have := pack_uniq hS hs hf (hb b (by simp)) (hb p (by simp [hp])) ((h5 ts).1 h7) h8 e
   subst this
   exact hn.1 hp
  ·rw [List.mem_append, h2]
   constructor
   ·rintro (h7 | ⟨p, hp, h7⟩)
    ·obtain ⟨ts, h8, rfl⟩ := List.mem_map.1 h7
     exact ⟨b, by simp, ts, rfl, (h5 ts).1 h8⟩
    ·exact ⟨p, by simp [hp], h7⟩
   ·rintro ⟨p, hp, ts, rfl, h7⟩
    rcases List.mem_cons.1 hp with rfl | hp
    ·exact .inl (List.mem_map.2 ⟨ts, (h5 ts).2 h7, rfl⟩)
    ·exact .inr ⟨p, hp, ts, rfl, h7⟩
  ·have e1 := h6 1
   rw [show min 1 lim = 1 from rfl, Nat.one_mul] at e1
   show sumM f (min (min x lim + prodM f 1 a.kids) lim) (al.map (·.kids)) = _
   rw [e1, min_add, h3, List.length_append, List.length_map]
   congr 1
   omega
 | [], _ :: _, h, _, _, _ => by unfold PacksAre at h; exact h.elim
 | _ :: _, [], h, _, _, _ => by unfold PacksAre at h; exact h.elim
theorem leaf_at {k : NKey} (hk : k.sym.term = true) {t : Tree} (h : TAt g w k t) : t = ⟨-1, k.sym.n, []⟩ := by
 obtain ⟨r, tt, ks⟩ := t
 have h1 := h.1
 unfold vt at h1
 rw [if_pos hk] at h1
 obtain ⟨rfl, rfl, rfl⟩ := h1
 rfl
theorem cn_trees (hS : SndM g w T) (hc : ClM g w T) (hr : ∀ q ∈ g.rules, 0 ≤ q.left) (hs : ∀ q ∈ g.rules, ∀ s ∈ q.right, 0 ≤ s.n) {ks : List NKey} {F : List FNode} (hF : ForestIs g w T ks F) {v c : Nat} (h : Cn F v c) :
  ∀ k, ks[v]? = some k → CntK g w k c := by
 induction h with
 | mk v nd f hv h ih =>
  intro k hk
  obtain ⟨e1, pl, hp, hpa⟩ := hF.node v k nd hk hv
  have hg := hF.good k (List.mem_of_getElem? hk)
  have hf : k.fr ≤ w.length := Nat.le_trans hg.le hg.len
  by_cases ht : k.sym.term = true
  ·have e2 : packsL g w T k = [] := by unfold packsL; rw [if_pos ht]
   rw [e2] at hp
   have e3 := hp.eq_nil
   subst e3
   have e4 : nd.packs = [] := by
    cases h5 : nd.packs with
    | nil => rfl
    | cons a al => rw [h5] at hpa; unfold PacksAre at hpa; exact hpa.elim
   obtain ⟨t, h6⟩ := hg.tree hS hr
   have h7 := leaf_at ht h6
   refine ⟨[t], by simp, fun u => ?_, ?_⟩
   ·simp only [List.mem_singleton]
    constructor
    ·rintro rfl; exact h6
    ·intro h8; rw [leaf_at ht h8, h7]
   ·unfold valN
    rw [e4, e1, if_pos ht]
    simp [sumM, lim]
  ·have ht' : k.sym.term = false := by simpa using ht
   obtain ⟨L, h1, h2, h3⟩ := sum_trees hS hs hf nd.packs pl hpa (hp.nodup_iff.2 (packs_nodup k)) (fun b hb => hp.mem_iff.1 hb) (fun p hp i hi k' hk' => ih p hp i hi k' hk')
   refine ⟨L, h1, fun t => ?_, ?_⟩
   ·rw [h2, tree_pack hS hc hs ht' hg.le hg.len]
    constructor
    ·rintro ⟨p, h4, h5⟩; exact ⟨p, hp.mem_iff.1 h4, h5⟩
    ·rintro ⟨p, h4, h5⟩; exact ⟨p, hp.mem_iff.2 h4, h5⟩
   ·have h4 := h3 0
    unfold valN
    rw [e1, ht', if_neg (by simp)]
    rw [show min 0 lim = 0 from rfl, Nat.zero_add] at h4
    exact h4
def EdgeF (F : List FNode) (v u : Nat) : Prop := ∃ nd, F[v]? = some nd ∧ ∃ p ∈ nd.packs, ∃ k ∈ p.kids, k.toNat = u
inductive RchF (F : List FNode) : Nat → Nat → Prop
 | one {v u : Nat} (h : EdgeF F v u) : RchF F v u
 | more {v u x : Nat} (h : EdgeF F v u) (k : RchF F u x) : RchF F v x
theorem RchF.snoc {F : List FNode} {v u x : Nat} (h : RchF F v u) (k : EdgeF F u x) : RchF F v x := by
 induction h with
 | one h => exact .more h (.one k)
 | more h _ ih => exact .more h (ih k)
theorem RchF.trans {F : List FNode} {v u x : Nat} (h : RchF F v u) (k : RchF F u x) : RchF F v x := by
 induction h with
 | one h => exact .more h k
 | more h _ ih => exact .more h (ih k)
def CycAt (F : List FNode) (v : Nat) : Prop := ∃ u, (u = v ∨ RchF F v u) ∧ RchF F u u
theorem CycAt.up {F : List FNode} {v u : Nat} (h : EdgeF F v u) (k : CycAt F u) : CycAt F v := by
 obtain ⟨x, h1, h2⟩ := k
 refine ⟨x, .inr ?_, h2⟩
 rcases h1 with rfl | h1
 ·exact .one h
 ·exact .more h h1
theorem tsAt_swap (hS : SndM g w T) (hr : ∀ q ∈ g.rules, 0 ≤ q.left) : ∀ (l : List NKey), (∀ k ∈ l, GoodK w T k) → ∀ k ∈ l, ∀ x, TAt g w k x → ∃ ts, TsAt g w l ts ∧ nodesT x ≤ nodesL ts
 | [], _, k, hk, _, _ => by simp at hk
 | k' :: l, hg, k, hk, x, hx => by
  rcases List.mem_cons.1 hk with rfl | hk
  ·have hts : ∃ ts, TsAt g w l ts := by
    clear hk hx
    have hg' : ∀ k ∈ l, GoodK w T k := fun a ha => hg a (by simp [ha])
    clear hg
    induction l with
    | nil => exact ⟨[], by unfold TsAt; trivial⟩
    | cons a l ih =>
     obtain ⟨ts, h⟩ := ih (fun b hb => hg' b (by simp [hb]))
     obtain ⟨t, ht⟩ := (hg' a (by simp)).tree hS hr
     exact ⟨t :: ts, by unfold TsAt; exact ⟨ht, h⟩⟩
   obtain ⟨ts, h⟩ := hts
   exact ⟨x :: ts, by unfold TsAt; exact ⟨hx, h⟩, by simp only [nodesL]; omega⟩
  ·obtain ⟨ts, h1, h2⟩ := tsAt_swap hS hr l (fun a ha => hg a (by simp [ha])) k hk x hx
   obtain ⟨t, ht⟩ := (hg k' (by simp)).tree hS hr
   exact ⟨t :: ts, by unfold TsAt; exact ⟨ht, h1⟩, by simp only [nodesL]; omega⟩
theorem edge_grow (hS : SndM g w T) (hc : ClM g w T) (hr : ∀ q ∈ g.rules, 0 ≤ q.left) (hs : ∀ q ∈ g.rules, ∀ s ∈ q.right, 0 ≤ s.n) {ks : List NKey} {F : List FNode} (hF : ForestIs g w T ks F) {v u : Nat} (h : EdgeF F v u) {kv : NKey} (hv : ks[v]? = some kv) :
  ∃ ku, ks[u]? = some ku ∧ ∀ x, TAt g w ku x → ∃ y, TAt g w kv y ∧ nodesT x < nodesT y := by
 obtain ⟨nd, h1, p, hp, i, hi, rfl⟩ := h
 obtain ⟨_, pl, hpm, hpa⟩ := hF.node v kv nd hv h1
 obtain ⟨b, hb, hpi⟩ := hpa.get hp
 obtain ⟨ku, hku, hi0, hki⟩ := hpi.2.get' hi
 have hbp := hpm.mem_iff.1 hb
 obtain ⟨hkt, q, hq, _, hway⟩ := mem_packs.1 hbp
 have hg := hF.good kv (List.mem_of_getElem? hv)
 have hgl := way_good hS q.right kv.fr kv.to b.2 (hs q (List.mem_of_getElem? hq)) (Nat.le_trans hg.le hg.len) hway
 refine ⟨ku, hki, fun x hx => ?_⟩
 obtain ⟨ts, h2, h3⟩ := tsAt_swap hS hr b.2 hgl ku hku x hx
 refine ⟨⟨(b.1 : Int), 0, ts⟩, (tree_pack hS hc hs hkt hg.le hg.len _).2 ⟨b, hbp, ts, rfl, h2⟩, ?_⟩
 simp only [nodesT]
 omega
theorem rch_grow (hS : SndM g w T) (hc : ClM g w T) (hr : ∀ q ∈ g.rules, 0 ≤ q.left) (hs : ∀ q ∈ g.rules, ∀ s ∈ q.right, 0 ≤ s.n) {ks : List NKey} {F : List FNode} (hF : ForestIs g w T ks F) {v u : Nat} (h : RchF F v u) :
  ∀ kv, ks[v]? = some kv → ∃ ku, ks[u]? = some ku ∧ ∀ x, TAt g w ku x → ∃ y, TAt g w kv y ∧ nodesT x < nodesT y := by
 induction h with
 | one h => exact fun kv hv => edge_grow hS hc hr hs hF h hv
 | more h _ ih =>
  intro kv hv
  obtain ⟨k1, h1, h2⟩ := edge_grow hS hc hr hs hF h hv
  obtain ⟨k2, h3, h4⟩ := ih k1 h1
  refine ⟨k2, h3, fun x hx => ?_⟩
  obtain ⟨y, h5, h6⟩ := h4 x hx
  obtain ⟨z, h7, h8⟩ := h2 y h5
  exact ⟨z, h7, by omega⟩
theorem cyc_many (hS : SndM g w T) (hc : ClM g w T) (hr : ∀ q ∈ g.rules, 0 ≤ q.left) (hs : ∀ q ∈ g.rules, ∀ s ∈ q.right, 0 ≤ s.n) {ks : List NKey} {F : List FNode} (hF : ForestIs g w T ks F) {v : Nat} (h : CycAt F v) {kv : NKey} (hv : ks[v]? = some kv) :
  ∀ N : Nat, ∃ t, TAt g w kv t ∧ N ≤ nodesT t := by
 obtain ⟨u, h1, h2⟩ := h
 have key : ∀ ku, ks[u]? = some ku → ∀ N : Nat, ∃ t, TAt g w ku t ∧ N ≤ nodesT t := by
  intro ku hu N
  induction N with
  | zero =>
   obtain ⟨t, ht⟩ := (hF.good ku (List.mem_of_getElem? hu)).tree hS hr
   exact ⟨t, ht, Nat.zero_le _⟩
  | succ N ih =>
   obtain ⟨t, h3, h4⟩ := ih
   obtain ⟨k2, h5, h6⟩ := rch_grow hS hc hr hs hF h2 ku hu
   rw [hu] at h5
   injection h5 with h5
   subst h5
   obtain ⟨y, h7, h8⟩ := h6 t h3
   exact ⟨y, h7, by omega⟩
 rcases h1 with rfl | h1
 ·exact key kv hv
 ·intro N
  obtain ⟨ku, h3, h4⟩ := rch_grow hS hc hr hs hF h1 kv hv
  obtain ⟨t, h5, h6⟩ := key ku h3 N
  obtain ⟨y, h7, h8⟩ := h4 t h5
  exact ⟨y, h7, by omega⟩
theorem count_is (hS : SndM g w T) (hc : ClM g w T) (hr : ∀ q ∈ g.rules, 0 ≤ q.left) (hs : ∀ q ∈ g.rules, ∀ s ∈ q.right, 0 ≤ s.n) {ks : List NKey} {F : List FNode} (hF : ForestIs g w T ks F) {v : Nat} (hv : ks[v]? = some ⟨⟨false, g.start⟩, 0, w.length⟩) :
  (CycAt F v → CntIs (TreesOf g w) (-1)) ∧ ∀ c, Cn F v c → CntIs (TreesOf g w) (c : Int) := by
 have e : ∀ t, TAt g w ⟨⟨false, g.start⟩, 0, w.length⟩ t ↔ TreesOf g w t := fun t => by
  unfold TAt TreesOf
  dsimp only
  rw [segW_all]
 refine ⟨fun h => .inl ⟨rfl, fun N => ?_⟩, fun c h => .inr ?_⟩
 ·obtain ⟨t, h1, h2⟩ := cyc_many hS hc hr hs hF h hv N
  exact ⟨t, (e t).1 h1, h2⟩
 ·obtain ⟨L, h1, h2, h3⟩ := cn_trees hS hc hr hs hF h _ hv
  exact ⟨L, h1, fun t => (h2 t).trans (e t), by rw [h3]; rfl⟩
theorem count_none (h : ¬ DerW g [⟨false, g.start⟩] w) : CntIs (TreesOf g w) 0 := by
 refine .inr ⟨[], by simp, fun t => ?_, by simp⟩
 simp only [List.not_mem_nil, false_iff]
 rintro ⟨h1, h2⟩
 have h3 := der_of_tree t _ h1 [] [] .nil
 rw [List.append_nil, h2] at h3
 exact h h3
end
end Go.Proofs.Ytjdojogjogenkaa
/- Plain: grammars whose trees answer to each other, with the same words, have as many trees of each word. No program is named here. -/
namespace Go.Proofs.Ytjdojogjogenkaa
set_option linter.unusedVariables false
def TreeBij (g h : Gram) (f k : Tree → Tree) : Prop :=
 (∀ t, vt g t ⟨false, g.start⟩ → vt h (f t) ⟨false, h.start⟩ ∧ k (f t) = t ∧ yieldT (f t) = yieldT t) ∧ (∀ u, vt h u ⟨false, h.start⟩ → vt g (k u) ⟨false, g.start⟩ ∧ f (k u) = u)
theorem TreeBij.refl (g : Gram) : TreeBij g g id id := ⟨fun t h => ⟨h, rfl, rfl⟩, fun u h => ⟨h, rfl⟩⟩
theorem TreeBij.trans {g h j : Gram} {f k f' k' : Tree → Tree} (a : TreeBij g h f k) (b : TreeBij h j f' k') : TreeBij g j (f' ∘ f) (k ∘ k') := by
 refine ⟨fun t ht => ?_, fun u hu => ?_⟩
 ·obtain ⟨a1, a2, a3⟩ := a.1 t ht
  obtain ⟨b1, b2, b3⟩ := b.1 _ a1
  exact ⟨b1, by simp only [Function.comp_apply]; rw [b2, a2], by simp only [Function.comp_apply]; rw [b3, a3]⟩
 ·obtain ⟨b1, b2⟩ := b.2 u hu
  obtain ⟨a1, a2⟩ := a.2 _ b1
  exact ⟨a1, by simp only [Function.comp_apply]; rw [a2, b2]⟩
theorem TreeBij.back {g h : Gram} {f k : Tree → Tree} (H : TreeBij g h f k) {u : Tree} (hu : vt h u ⟨false, h.start⟩) : yieldT (k u) = yieldT u := by
 obtain ⟨b1, b2⟩ := H.2 u hu
 obtain ⟨_, _, a3⟩ := H.1 _ b1
 rw [← a3, b2]
theorem TreeBij.count {g h : Gram} {f k : Tree → Tree} (H : TreeBij g h f k) {ws : List Int} {a b : Int} (ha : CntIs (TreesOf g ws) a) (hb : CntIs (TreesOf h ws) b) : a = b := by
 refine CntIs.bij f k (fun t ht => ?_) (fun u hu => ?_) ha hb
 ·obtain ⟨a1, a2, a3⟩ := H.1 t ht.1
  exact ⟨⟨a1, by rw [a3]; exact ht.2⟩, a2⟩
 ·obtain ⟨b1, b2⟩ := H.2 u hu.1
  exact ⟨⟨b1, by rw [H.back hu.1]; exact hu.2⟩, b2⟩
end Go.Proofs.Ytjdojogjogenkaa
/- Rows of numbers that are known whole; made. -/
namespace Go.Proofs.Ytjdojogjogenkaa
open Go.RowKit
set_option linter.unusedVariables false
def icells (l : List Int) : Array Value := (l.map fun x => Value.int .i64 x).toArray
theorem icells_size (l : List Int) : (icells l).size = l.length := by simp [icells]
theorem icells_get {l : List Int} {i : Nat} {x : Int} (h : l[i]? = some x) : (icells l)[i]? = some (.int .i64 x) := by simp [icells, h]
theorem icells_set (l : List Int) (i : Nat) (x : Int) : (icells l).setIfInBounds i (.int .i64 x) = icells (l.set i x) := by
 apply Array.ext'
 simp [icells, List.map_set]
theorem icells_made (n : Nat) : madeCells #[.int .i64 0] n = icells (List.replicate n 0) := by
 apply Array.ext'
 simp only [madeCells, icells, Array.toList_map, Array.toList_range, List.map_replicate]
 apply List.ext_getElem
 ·simp
 ·intro i h1 h2
  simp [Nat.mod_one]
theorem els_icells {w : World} {S : Nat → Prop} {g : Nat} {t : TypeId} {ms : List Int} (hb : Blk' w g t (icells ms)) (h : ∀ v ∈ ms, I64 v) (hS : S g) : Els w S ms (some ⟨g, 0, none⟩) :=
 fun _ => ⟨g, 0, rfl, hS, fun i x hi => ⟨[.int .i64 x], ⟨rfl, h x (List.mem_of_getElem? hi)⟩, fun j u hu => by
  match j, hu with
  | 0, hu =>
   simp at hu; subst hu
   have e : 0 + i * Dat.size Int + 0 = i := by show 0 + i * 1 + 0 = i; omega
   rw [e, hb.cell]
   exact icells_get hi⟩⟩
theorem mkInts (n : Nat) (hn : n ≤ 1000000) (W : World) : (Instr.makeSlice 22 (.int .i64 (n : Int)) (.int .i64 (n : Int))).run Try.prog W = .ok (.slice (some ⟨W.heap.size, 0, none⟩) n n) (W.alloc (.cells (icells (List.replicate n 0)) 3)) := by
 rw [← icells_made]
 exact run_make_row' (P := Try.prog) 22 3 (.int .i64 0) 8 Try.underlying22 infoInt rfl .i64 .i64 n (by omega) (by omega) W
end Go.Proofs.Ytjdojogjogenkaa
/- Steps of a region that draws its order, by hand: the operation is read off the written-out list. No program is named here. -/
namespace Go.Proofs.Ytjdojogjogenkaa
open Go.RowKit
set_option linter.unusedVariables false
theorem drop_get {l : List Oper} {i : Nat} {o : Oper} {rest : List Oper} (h : l.drop i = o :: rest) : l.toArray[i]? = some o := by
 have h1 : (l.drop i)[0]? = some o := by rw [h]; rfl
 simpa using h1
section
variable {P : Program} {l : List Oper} {Q : Exit → Act → World → Prop} {md : Region.Mode} {S : World → Prop}
theorem take_run {i : Nat} {oi : Oper} {rest : List Oper} {v : Value} {fuel : Nat} {listed : Array Bool} {a : Act} {w : World} (hi : l.drop i = oi :: rest)
  (hs : Region.noSelect l.toArray = true) (hf : Region.free md l.toArray listed i = true) (hr : (Region.ready md l.toArray listed).contains i = true)
  (hQ : ∀ c a w, Q (.panic c) (a.put oi.dst v) w → Q (.panic c) a w) (hw : Region.wanted oi (yielded l.toArray a.tmps) = true) (hy : ∀ w, S w → (execOp a.eval oi).run P w = .ok (.value v) w) (hS : S w)
  (h : wpAnyH P md l.toArray Q S fuel (listed.setIfInBounds i true) (a.put oi.dst v) w) : wpAnyH P md l.toArray Q S (fuel + 1) listed a w :=
 wpAnyH_take (drop_get hi) hs hf hr hQ (.inl ⟨hw, hy⟩) hS h
theorem take_bar {i : Nat} {oi : Oper} {rest : List Oper} {fuel : Nat} {listed : Array Bool} {a : Act} {w : World} (hi : l.drop i = oi :: rest)
  (hs : Region.noSelect l.toArray = true) (hf : Region.free md l.toArray listed i = true) (hr : (Region.ready md l.toArray listed).contains i = true)
  (hQ : ∀ c a w, Q (.panic c) (a.put oi.dst undef) w → Q (.panic c) a w) (hw : Region.wanted oi (yielded l.toArray a.tmps) = false) (hS : S w)
  (h : wpAnyH P md l.toArray Q S fuel (listed.setIfInBounds i true) (a.put oi.dst undef) w) : wpAnyH P md l.toArray Q S (fuel + 1) listed a w :=
 wpAnyH_take (drop_get hi) hs hf hr hQ (.inr ⟨hw, rfl⟩) hS h
theorem take_call {i : Nat} {o : Oper} {rest : List Oper} {fuel : Nat} {listed : Array Bool} {a : Act} {w : World} (hi : l.drop i = o :: rest) (hr : Region.ready md l.toArray listed = [i]) (hw : Region.wanted o (yielded l.toArray a.tmps) = true)
  (h : ∀ K' : Act → World → Prop, Shut (∀ a w, S w → (S w → wpAnyH P md l.toArray Q S fuel (listed.setIfInBounds i true) a w) → K' a w) → Oper.wp P o a w K' Q) : wpAnyH P md l.toArray Q S (fuel + 1) listed a w :=
 wpAnyH_ready hr (by simp) (AllReadyH.cons (drop_get hi) (fun K hK => by rw [if_pos hw]; exact h K hK) AllReadyH.nil)
theorem take_two {i j : Nat} {o o' : Oper} {rest rest' : List Oper} {fuel : Nat} {listed : Array Bool} {a : Act} {w : World} (hi : l.drop i = o :: rest) (hj : l.drop j = o' :: rest') (hr : Region.ready md l.toArray listed = [i, j]) (hwi : Region.wanted o (yielded l.toArray a.tmps) = true) (hwj : Region.wanted o' (yielded l.toArray a.tmps) = true)
  (h1 : ∀ K' : Act → World → Prop, Shut (∀ a w, S w → (S w → wpAnyH P md l.toArray Q S fuel (listed.setIfInBounds i true) a w) → K' a w) → Oper.wp P o a w K' Q)
  (h2 : ∀ K' : Act → World → Prop, Shut (∀ a w, S w → (S w → wpAnyH P md l.toArray Q S fuel (listed.setIfInBounds j true) a w) → K' a w) → Oper.wp P o' a w K' Q) : wpAnyH P md l.toArray Q S (fuel + 1) listed a w :=
 wpAnyH_ready hr (by simp) (AllReadyH.cons (drop_get hi) (fun K hK => by rw [if_pos hwi]; exact h1 K hK) (AllReadyH.cons (drop_get hj) (fun K hK => by rw [if_pos hwj]; exact h2 K hK) AllReadyH.nil))
end
end Go.Proofs.Ytjdojogjogenkaa
/- A region that draws its order, by hand: the held condition S is wanted until operation d has come up, and no longer (so a region's own last stores may turn cells that its loads read). No program is named here. -/
namespace Go.Proofs.Ytjdojogjogenkaa
open Go.RowKit
set_option linter.unusedVariables false
def wpAnyD (P : Program) (md : Region.Mode) (ops : Array Oper) (Q : Exit → Act → World → Prop) (S : World → Prop) (d : Nat) : Nat → Array Bool → Act → World → Prop
 | 0, listed, a, w => Region.ready md ops listed = [] ∧ Q .normal a w
 | fuel + 1, listed, a, w =>
  (Region.ready md ops listed = [] → Q .normal a w) ∧
  ∀ i ∈ Region.ready md ops listed, wpOp P ops Q i (fun a' w' => (i ≠ d → listed.getD d false = false → S w') ∧ wpAnyD P md ops Q S d fuel (listed.setIfInBounds i true) a' w') a w
section
variable {P : Program} {ops : Array Oper} {Q : Exit → Act → World → Prop} {md : Region.Mode} {S : World → Prop} {d : Nat}
theorem wpAny_of_stage : ∀ (fuel : Nat) (listed : Array Bool) (a : Act) (w : World), wpAnyD P md ops Q S d fuel listed a w → wpAny P md ops Q fuel listed a w
 | 0, _, _, _, h => h
 | fuel + 1, _, _, _, h => ⟨h.1, fun i hi => wpOp_mono (fun a' w' h' => wpAny_of_stage fuel _ a' w' h'.2) (h.2 i hi)⟩
theorem wpAnyD_done {listed : Array Bool} {a : Act} {w : World} (hr : Region.ready md ops listed = []) (h : Q .normal a w) : ∀ fuel, wpAnyD P md ops Q S d fuel listed a w
 | 0 => ⟨hr, h⟩
 | _ + 1 => ⟨fun _ => h, by rw [hr]; simp⟩
theorem getD_other {l : Array Bool} {i j : Nat} (h : i ≠ j) (b : Bool) : (l.setIfInBounds i true).getD j b = l.getD j b := by
 simp only [Array.getD_eq_getD_getElem?]
 rw [Array.getElem?_setIfInBounds, if_neg h]
theorem wpAnyD_first {i : Nat} {oi : Oper} {v : Value} (hi : ops[i]? = some oi) (hsel : ∀ (j : Nat) (o : Oper) cs b, ops[j]? = some o → o.op ≠ .select cs b)
  (hQ : ∀ c a w, Q (.panic c) (a.put oi.dst v) w → Q (.panic c) a w) (hid : i ≠ d) (T : World → Prop)
  (hT : (∀ w, T w) ∨ ((∀ w, S w → T w) ∧ ∀ od, ops[d]? = some od → ∃ e ∈ od.after, Region.binds md e = true ∧ e.on = i)) :
  ∀ (fuel : Nat) (listed : Array Bool) (a : Act) (w : World),
   (∀ j oj, ops[j]? = some oj → j ≠ i → listed.getD j true = false → (∀ e ∈ oj.after, Region.binds md e = true → e.on ≠ i) → oi.apart ops oj = true) →
   i ∈ Region.ready md ops listed → YieldsIf P ops T oi v a → (listed.getD d false = false → S w) → ((∀ w, T w) ∨ listed.getD d false = false) →
   wpAnyD P md ops Q S d fuel (listed.setIfInBounds i true) (a.put oi.dst v) w → wpAnyD P md ops Q S d (fuel + 1) listed a w := by
 intro fuel
 induction fuel with
 | zero =>
  intro listed a w _ hr hy hS hl H
  refine ⟨fun h => (by rw [h] at hr; cases hr), fun j hj => ?_⟩
  by_cases hji : j = i
  ·subst hji
   have hTw : T w := by
    rcases hT with h | h
    ·exact h w
    ·rcases hl with h' | h'
     ·exact h' w
     ·exact h.1 w (hS h')
   exact hy.wpOp hi hTw ⟨fun _ h => hS h, H⟩
  ·have := ready_mono hj hji
   rw [H.1] at this
   cases this
 | succ fuel ih =>
  intro listed a w hfree hr hy hS hl H
  refine ⟨fun h => (by rw [h] at hr; cases hr), fun j hj => ?_⟩
  by_cases hji : j = i
  ·subst hji
   have hTw : T w := by
    rcases hT with h | h
    ·exact h w
    ·rcases hl with h' | h'
     ·exact h' w
     ·exact h.1 w (hS h')
   exact hy.wpOp hi hTw ⟨fun _ h => hS h, H⟩
  ·have h1 := H.2 j (ready_mono hj hji)
   obtain ⟨hjun, oj, hoj, hall⟩ := mem_ready.1 hj
   have hnot : ∀ e ∈ oj.after, Region.binds md e = true → e.on ≠ i := fun e he hb heq => by
    have h1 := hall e he hb
    have h0 := (mem_ready.1 hr).1
    rw [heq] at h1
    rcases Nat.lt_or_ge i listed.size with h' | h'
    ·simp [h'] at h0 h1; rw [h0] at h1; cases h1
    ·simp [Array.getElem?_eq_none h'] at h1
   have h2 := wpOp_putIf hoj (hfree j oj hoj hji hjun hnot) (fun cs b => hsel i oi cs b hi) (fun cs b => hsel j oj cs b hoj) hQ hy h1
   have hfree' : ∀ k ok, ops[k]? = some ok → k ≠ i → (listed.setIfInBounds j true).getD k true = false →
     (∀ e ∈ ok.after, Region.binds md e = true → e.on ≠ i) → oi.apart ops ok = true := fun k ok hk hki hun hno => by
    refine hfree k ok hk hki ?_ hno
    by_cases hjk : j = k
    ·subst hjk; exact hjun
    ·rw [getD_set_ne true hjk] at hun; exact hun
   have hgi : (listed.setIfInBounds i true).getD d false = listed.getD d false := getD_other hid false
   refine wpOp_mono (fun a' w' h3 => ?_) h2
   have hS' : j ≠ d → listed.getD d false = false → S w' := fun h h' => h3.2.1 h (by rw [hgi]; exact h')
   refine ⟨hS', ih (listed.setIfInBounds j true) a' w' hfree' (ready_mono hr (Ne.symm hji)) h3.1 ?_ ?_ ?_⟩
   ·intro hd
    by_cases hjd : j = d
    ·subst hjd
     have hlt : j < listed.size := by
      rcases Nat.lt_or_ge j listed.size with h | h
      ·exact h
      ·have := (mem_ready.1 hj).1
       simp [Array.getElem?_eq_none h] at this
     simp [Array.getD_eq_getD_getElem?, Array.getElem?_setIfInBounds, hlt] at hd
    ·rw [getD_other hjd] at hd
     exact hS' hjd hd
   ·rcases hl with h' | h'
    ·exact .inl h'
    ·rcases hT with h | h
     ·exact .inl h
     ·refine .inr ?_
      have hjd : j ≠ d := by
       rintro rfl
       obtain ⟨e, he, hb, hon⟩ := h.2 oj hoj
       exact hnot e he hb hon
      rw [getD_other hjd]
      exact h'
   ·rw [Array.setIfInBounds_comm _ _ hji]
    exact h3.2.2
end
section
variable {P : Program} {l : List Oper} {Q : Exit → Act → World → Prop} {md : Region.Mode} {S : World → Prop} {d : Nat}
theorem stage_start {id : Nat} {a : Act} {w : World} (d : Nat) (hm : P.follows .mixedOrders = true) (hS : S w.drew)
  (h : S w.drew → wpAnyD P .any l.toArray Q S d l.toArray.size (Array.replicate l.toArray.size false) a w.drew) : (Code.region id l.toArray true).wp P Q a w :=
 wp_region_any hm (wpAny_of_stage _ _ _ _ (h hS))
def waitsB (md : Region.Mode) (ops : Array Oper) (d i : Nat) : Bool := match ops[d]? with
 | some od => od.after.any fun e => Region.binds md e && e.on == i
 | none => true
theorem waitsB_spec {ops : Array Oper} {i : Nat} (h : waitsB md ops d i = true) : ∀ od, ops[d]? = some od → ∃ e ∈ od.after, Region.binds md e = true ∧ e.on = i := by
 intro od ho
 unfold waitsB at h
 rw [ho] at h
 obtain ⟨e, he, h⟩ := Array.any_eq_true'.1 h
 simp only [Bool.and_eq_true, beq_iff_eq] at h
 exact ⟨e, he, h⟩
theorem st_run {i : Nat} {oi : Oper} {rest : List Oper} {v : Value} {fuel : Nat} {listed : Array Bool} {a : Act} {w : World} (hi : l.drop i = oi :: rest)
  (hs : Region.noSelect l.toArray = true) (hf : Region.free md l.toArray listed i = true) (hr : (Region.ready md l.toArray listed).contains i = true) (hid : (i != d && waitsB md l.toArray d i && !listed.getD d false) = true)
  (hQ : ∀ c a w, Q (.panic c) (a.put oi.dst v) w → Q (.panic c) a w) (hw : Region.wanted oi (yielded l.toArray a.tmps) = true) (hy : ∀ w, S w → (execOp a.eval oi).run P w = .ok (.value v) w) (hS : S w)
  (h : wpAnyD P md l.toArray Q S d fuel (listed.setIfInBounds i true) (a.put oi.dst v) w) : wpAnyD P md l.toArray Q S d (fuel + 1) listed a w := by
 simp only [Bool.and_eq_true, bne_iff_ne, Bool.not_eq_true'] at hid
 exact wpAnyD_first (drop_get hi) (Region.noSelect_spec hs) hQ hid.1.1 S (.inr ⟨fun _ h => h, waitsB_spec hid.1.2⟩) fuel listed a w (Region.free_spec (drop_get hi) hf) (by simpa using hr) (.inl ⟨hw, hy⟩) (fun _ => hS) (.inr hid.2) h
theorem st_pure {i : Nat} {oi : Oper} {rest : List Oper} {v : Value} {fuel : Nat} {listed : Array Bool} {a : Act} {w : World} (hi : l.drop i = oi :: rest)
  (hs : Region.noSelect l.toArray = true) (hf : Region.free md l.toArray listed i = true) (hr : (Region.ready md l.toArray listed).contains i = true) (hid : (i != d) = true)
  (hQ : ∀ c a w, Q (.panic c) (a.put oi.dst v) w → Q (.panic c) a w) (hw : Region.wanted oi (yielded l.toArray a.tmps) = true) (hy : ∀ w, (execOp a.eval oi).run P w = .ok (.value v) w) (hS : S w ∨ listed.getD d false = true)
  (h : wpAnyD P md l.toArray Q S d fuel (listed.setIfInBounds i true) (a.put oi.dst v) w) : wpAnyD P md l.toArray Q S d (fuel + 1) listed a w := by
 refine wpAnyD_first (drop_get hi) (Region.noSelect_spec hs) hQ (by simpa using hid) (fun _ => True) (.inl fun _ => trivial) fuel listed a w (Region.free_spec (drop_get hi) hf) (by simpa using hr) (.inl ⟨hw, fun w _ => hy w⟩) (fun h => ?_) (.inl fun _ => trivial) h
 rcases hS with hS | hS
 ·exact hS
 ·rw [h] at hS; cases hS
theorem st_bar {i : Nat} {oi : Oper} {rest : List Oper} {fuel : Nat} {listed : Array Bool} {a : Act} {w : World} (hi : l.drop i = oi :: rest)
  (hs : Region.noSelect l.toArray = true) (hf : Region.free md l.toArray listed i = true) (hr : (Region.ready md l.toArray listed).contains i = true) (hid : (i != d) = true)
  (hQ : ∀ c a w, Q (.panic c) (a.put oi.dst undef) w → Q (.panic c) a w) (hw : Region.wanted oi (yielded l.toArray a.tmps) = false) (hS : S w ∨ listed.getD d false = true)
  (h : wpAnyD P md l.toArray Q S d fuel (listed.setIfInBounds i true) (a.put oi.dst undef) w) : wpAnyD P md l.toArray Q S d (fuel + 1) listed a w := by
 refine wpAnyD_first (drop_get hi) (Region.noSelect_spec hs) hQ (by simpa using hid) (fun _ => True) (.inl fun _ => trivial) fuel listed a w (Region.free_spec (drop_get hi) hf) (by simpa using hr) (.inr ⟨hw, rfl⟩) (fun h => ?_) (.inl fun _ => trivial) h
 rcases hS with hS | hS
 ·exact hS
 ·rw [h] at hS; cases hS
theorem st_ready {rs : List Nat} {fuel : Nat} {listed : Array Bool} {a : Act} {w : World} (hr : Region.ready md l.toArray listed = rs) (hne : rs ≠ [])
  (h : ∀ i ∈ rs, ∃ o, l.toArray[i]? = some o ∧ Region.wanted o (yielded l.toArray a.tmps) = true ∧ ∀ K' : Act → World → Prop, Shut (∀ a w, (i ≠ d → listed.getD d false = false → S w) → wpAnyD P md l.toArray Q S d fuel (listed.setIfInBounds i true) a w → K' a w) → Oper.wp P o a w K' Q) :
  wpAnyD P md l.toArray Q S d (fuel + 1) listed a w := by
 refine ⟨fun h0 => absurd (hr ▸ h0) hne, hr ▸ fun i hi => ?_⟩
 obtain ⟨o, ho, hw, h⟩ := h i hi
 refine wpOp_step ho fun K' hK => ?_
 rw [if_pos hw]
 exact h K' fun a w h1 h2 => hK a w ⟨h1, h2⟩
theorem st_one {i : Nat} {o : Oper} {rest : List Oper} {fuel : Nat} {listed : Array Bool} {a : Act} {w : World} (hi : l.drop i = o :: rest) (hr : Region.ready md l.toArray listed = [i]) (hw : Region.wanted o (yielded l.toArray a.tmps) = true)
  (h : ∀ K' : Act → World → Prop, Shut (∀ a w, S w → (S w → wpAnyD P md l.toArray Q S d fuel (listed.setIfInBounds i true) a w) → K' a w) → Oper.wp P o a w K' Q) : wpAnyD P md l.toArray Q S d (fuel + 1) listed a w := by
 refine st_ready hr (by simp) fun j hj => ?_
 obtain rfl := List.mem_singleton.1 hj
 exact ⟨o, drop_get hi, hw, fun K' hK => h K' fun a w hS hW => hK.out a w (fun _ _ => hS) (hW hS)⟩
theorem st_late {i : Nat} {o : Oper} {rest : List Oper} {fuel : Nat} {listed : Array Bool} {a : Act} {w : World} (hi : l.drop i = o :: rest) (hr : Region.ready md l.toArray listed = [i]) (hw : Region.wanted o (yielded l.toArray a.tmps) = true) (hd : (i == d || listed.getD d false) = true)
  (h : ∀ K' : Act → World → Prop, Shut (∀ a w, wpAnyD P md l.toArray Q S d fuel (listed.setIfInBounds i true) a w → K' a w) → Oper.wp P o a w K' Q) : wpAnyD P md l.toArray Q S d (fuel + 1) listed a w := by
 refine st_ready hr (by simp) fun j hj => ?_
 obtain rfl := List.mem_singleton.1 hj
 refine ⟨o, drop_get hi, hw, fun K' hK => h K' fun a w hW => hK.out a w (fun h1 h2 => ?_) hW⟩
 rw [Bool.or_eq_true] at hd
 rcases hd with hd | hd
 ·exact absurd (by simpa using hd) h1
 ·rw [h2] at hd; cases hd
theorem st_two {i j : Nat} {o o' : Oper} {rest rest' : List Oper} {fuel : Nat} {listed : Array Bool} {a : Act} {w : World} (hi : l.drop i = o :: rest) (hj : l.drop j = o' :: rest') (hr : Region.ready md l.toArray listed = [i, j]) (hwi : Region.wanted o (yielded l.toArray a.tmps) = true) (hwj : Region.wanted o' (yielded l.toArray a.tmps) = true)
  (h1 : ∀ K' : Act → World → Prop, Shut (∀ a w, S w → (S w → wpAnyD P md l.toArray Q S d fuel (listed.setIfInBounds i true) a w) → K' a w) → Oper.wp P o a w K' Q)
  (h2 : ∀ K' : Act → World → Prop, Shut (∀ a w, S w → (S w → wpAnyD P md l.toArray Q S d fuel (listed.setIfInBounds j true) a w) → K' a w) → Oper.wp P o' a w K' Q) : wpAnyD P md l.toArray Q S d (fuel + 1) listed a w := by
 refine st_ready hr (by simp) fun k hk => ?_
 rcases List.mem_cons.1 hk with rfl | hk
 ·exact ⟨o, drop_get hi, hwi, fun K' hK => h1 K' fun a w hS hW => hK.out a w (fun _ _ => hS) (hW hS)⟩
 ·obtain rfl := List.mem_singleton.1 hk
  exact ⟨o', drop_get hj, hwj, fun K' hK => h2 K' fun a w hS hW => hK.out a w (fun _ _ => hS) (hW hS)⟩
end
end Go.Proofs.Ytjdojogjogenkaa
/- A region by hand: three operations that may come up; a block of eight cells stored over. No program is named here. -/
namespace Go.Proofs.Ytjdojogjogenkaa
open Go.RowKit
set_option linter.unusedVariables false
section
variable {P : Program} {l : List Oper} {Q : Exit → Act → World → Prop} {md : Region.Mode} {S : World → Prop}
theorem take_thr {i j k : Nat} {o o' o'' : Oper} {rest rest' rest'' : List Oper} {fuel : Nat} {listed : Array Bool} {a : Act} {w : World} (hi : l.drop i = o :: rest) (hj : l.drop j = o' :: rest') (hk : l.drop k = o'' :: rest'') (hr : Region.ready md l.toArray listed = [i, j, k]) (hwi : Region.wanted o (yielded l.toArray a.tmps) = true) (hwj : Region.wanted o' (yielded l.toArray a.tmps) = true) (hwk : Region.wanted o'' (yielded l.toArray a.tmps) = true)
  (h1 : ∀ K' : Act → World → Prop, Shut (∀ a w, S w → (S w → wpAnyH P md l.toArray Q S fuel (listed.setIfInBounds i true) a w) → K' a w) → Oper.wp P o a w K' Q)
  (h2 : ∀ K' : Act → World → Prop, Shut (∀ a w, S w → (S w → wpAnyH P md l.toArray Q S fuel (listed.setIfInBounds j true) a w) → K' a w) → Oper.wp P o' a w K' Q)
  (h3 : ∀ K' : Act → World → Prop, Shut (∀ a w, S w → (S w → wpAnyH P md l.toArray Q S fuel (listed.setIfInBounds k true) a w) → K' a w) → Oper.wp P o'' a w K' Q) : wpAnyH P md l.toArray Q S (fuel + 1) listed a w :=
 wpAnyH_ready hr (by simp) (AllReadyH.cons (drop_get hi) (fun K hK => by rw [if_pos hwi]; exact h1 K hK) (AllReadyH.cons (drop_get hj) (fun K hK => by rw [if_pos hwj]; exact h2 K hK) (AllReadyH.cons (drop_get hk) (fun K hK => by rw [if_pos hwk]; exact h3 K hK) AllReadyH.nil)))
end
theorem set8 {w : World} {b : Nat} {t : TypeId} {a0 a1 a2 a3 a4 a5 a6 a7 : Value} (h : Blk' w b t #[a0, a1, a2, a3, a4, a5, a6, a7]) (v0 v1 v2 v3 v4 v5 v6 v7 : Value) :
  Blk' ((((((((w.setCell ⟨b, 0, none⟩ v0).setCell ⟨b, 1, none⟩ v1).setCell ⟨b, 2, none⟩ v2).setCell ⟨b, 3, none⟩ v3).setCell ⟨b, 4, none⟩ v4).setCell ⟨b, 5, none⟩ v5).setCell ⟨b, 6, none⟩ v6).setCell ⟨b, 7, none⟩ v7) b t #[v0, v1, v2, v3, v4, v5, v6, v7] ∧ Kept (fun x => x = b) w ((((((((w.setCell ⟨b, 0, none⟩ v0).setCell ⟨b, 1, none⟩ v1).setCell ⟨b, 2, none⟩ v2).setCell ⟨b, 3, none⟩ v3).setCell ⟨b, 4, none⟩ v4).setCell ⟨b, 5, none⟩ v5).setCell ⟨b, 6, none⟩ v6).setCell ⟨b, 7, none⟩ v7) := by
 have k0 : Kept (fun x => x = b) w w := Kept.refl _ _
 obtain ⟨w1, e1⟩ : ∃ q : World, q = w.setCell ⟨b, 0, none⟩ v0 := ⟨_, rfl⟩
 rw [← e1]
 have h1 : Blk' w1 b t #[v0, a1, a2, a3, a4, a5, a6, a7] := by rw [e1]; exact h.set_ 0 v0
 have k1 : Kept (fun x => x = b) w w1 := by rw [e1]; exact k0.setCell (p := ⟨b, 0, none⟩) (.inl rfl) v0
 clear e1
 obtain ⟨w2, e2⟩ : ∃ q : World, q = w1.setCell ⟨b, 1, none⟩ v1 := ⟨_, rfl⟩
 rw [← e2]
 have h2 : Blk' w2 b t #[v0, v1, a2, a3, a4, a5, a6, a7] := by rw [e2]; exact h1.set_ 1 v1
 have k2 : Kept (fun x => x = b) w w2 := by rw [e2]; exact k1.setCell (p := ⟨b, 1, none⟩) (.inl rfl) v1
 clear e2
 obtain ⟨w3, e3⟩ : ∃ q : World, q = w2.setCell ⟨b, 2, none⟩ v2 := ⟨_, rfl⟩
 rw [← e3]
 have h3 : Blk' w3 b t #[v0, v1, v2, a3, a4, a5, a6, a7] := by rw [e3]; exact h2.set_ 2 v2
 have k3 : Kept (fun x => x = b) w w3 := by rw [e3]; exact k2.setCell (p := ⟨b, 2, none⟩) (.inl rfl) v2
 clear e3
 obtain ⟨w4, e4⟩ : ∃ q : World, q = w3.setCell ⟨b, 3, none⟩ v3 := ⟨_, rfl⟩
 rw [← e4]
 have h4 : Blk' w4 b t #[v0, v1, v2, v3, a4, a5, a6, a7] := by rw [e4]; exact h3.set_ 3 v3
 have k4 : Kept (fun x => x = b) w w4 := by rw [e4]; exact k3.setCell (p := ⟨b, 3, none⟩) (.inl rfl) v3
 clear e4
 obtain ⟨w5, e5⟩ : ∃ q : World, q = w4.setCell ⟨b, 4, none⟩ v4 := ⟨_, rfl⟩
 rw [← e5]
 have h5 : Blk' w5 b t #[v0, v1, v2, v3, v4, a5, a6, a7] := by rw [e5]; exact h4.set_ 4 v4
 have k5 : Kept (fun x => x = b) w w5 := by rw [e5]; exact k4.setCell (p := ⟨b, 4, none⟩) (.inl rfl) v4
 clear e5
 obtain ⟨w6, e6⟩ : ∃ q : World, q = w5.setCell ⟨b, 5, none⟩ v5 := ⟨_, rfl⟩
 rw [← e6]
 have h6 : Blk' w6 b t #[v0, v1, v2, v3, v4, v5, a6, a7] := by rw [e6]; exact h5.set_ 5 v5
 have k6 : Kept (fun x => x = b) w w6 := by rw [e6]; exact k5.setCell (p := ⟨b, 5, none⟩) (.inl rfl) v5
 clear e6
 obtain ⟨w7, e7⟩ : ∃ q : World, q = w6.setCell ⟨b, 6, none⟩ v6 := ⟨_, rfl⟩
 rw [← e7]
 have h7 : Blk' w7 b t #[v0, v1, v2, v3, v4, v5, v6, a7] := by rw [e7]; exact h6.set_ 6 v6
 have k7 : Kept (fun x => x = b) w w7 := by rw [e7]; exact k6.setCell (p := ⟨b, 6, none⟩) (.inl rfl) v6
 clear e7
 obtain ⟨w8, e8⟩ : ∃ q : World, q = w7.setCell ⟨b, 7, none⟩ v7 := ⟨_, rfl⟩
 rw [← e8]
 have h8 : Blk' w8 b t #[v0, v1, v2, v3, v4, v5, v6, v7] := by rw [e8]; exact h7.set_ 7 v7
 have k8 : Kept (fun x => x = b) w w8 := by rw [e8]; exact k7.setCell (p := ⟨b, 7, none⟩) (.inl rfl) v7
 clear e8
 exact ⟨h8, k8⟩
theorem set4F {w : World} {b : Nat} {t : TypeId} {a0 a1 a2 a3 : Value} (h : Blk' w b t #[a0, a1, a2, a3]) (v0 v1 v2 v3 : Value) :
  Blk' ((((w.setCell ⟨b, 0, none⟩ v0).setCell ⟨b, 1, none⟩ v1).setCell ⟨b, 2, none⟩ v2).setCell ⟨b, 3, none⟩ v3) b t #[v0, v1, v2, v3] ∧ Kept (fun x => x = b) w ((((w.setCell ⟨b, 0, none⟩ v0).setCell ⟨b, 1, none⟩ v1).setCell ⟨b, 2, none⟩ v2).setCell ⟨b, 3, none⟩ v3) :=
 ⟨(((h.set_ 0 _).set_ 1 _).set_ 2 _).set_ 3 _, ((((Kept.refl (fun x => x = b) w).setCell (p := ⟨b, 0, none⟩) (.inl rfl) _).setCell (p := ⟨b, 1, none⟩) (.inl rfl) _).setCell (p := ⟨b, 2, none⟩) (.inl rfl) _).setCell (p := ⟨b, 3, none⟩) (.inl rfl) _⟩
end Go.Proofs.Ytjdojogjogenkaa
/- Parts of slices, and slices of two slices, read. -/
namespace Go.Proofs.Ytjdojogjogenkaa
open Go.RowKit
set_option linter.unusedVariables false
section
variable {w : World} {S : Nat → Prop} {α : Type} [Dat α]
theorem Els.takeS {xs : List α} {A : Option Addr} (h : Els w S xs A) (n : Nat) : Els w S (xs.take n) A := by
 intro hne
 obtain ⟨b', o', e, hS, hx⟩ := h (by rintro rfl; simp at hne)
 refine ⟨b', o', e, hS, fun i y hi => hx i y ?_⟩
 rw [List.getElem?_take] at hi
 split at hi
 ·exact hi
 ·cases hi
theorem Els.dropS {xs : List α} {b o : Nat} (h : Els w S xs (some ⟨b, o, none⟩)) (n : Nat) : Els w S (xs.drop n) (some ⟨b, o + n * Dat.size α, none⟩) := by
 intro hne
 obtain ⟨b', o', e, hS, hx⟩ := h (by rintro rfl; simp at hne)
 injection e with e
 injection e with e1 e2 _
 subst e1; subst e2
 refine ⟨b, o + n * Dat.size α, rfl, hS, fun i y hi => ?_⟩
 rw [List.getElem?_drop] at hi
 obtain ⟨cs, h1, h2⟩ := hx _ y hi
 refine ⟨cs, h1, ?_⟩
 rw [show o + n * Dat.size α + i * Dat.size α = o + (n + i) * Dat.size α from by rw [Nat.add_mul]; omega]
 exact h2
theorem Els.nilS {A : Option Addr} : Els w S ([] : List α) A := fun h => absurd rfl h
theorem Els.rowS {xs : List (List α)} {A : Option Addr} (h : Els w S xs A) {k : Nat} {x : List α} (hk : xs[k]? = some x) :
  ∃ b o A' c, A = some ⟨b, o, none⟩ ∧ S b ∧ b < w.heap.size ∧ w.cell? ⟨b, o + k, none⟩ = some (.slice A' x.length c) ∧ x.length ≤ c ∧ c ≤ 9223372036854775807 ∧ Els w S x A' := by
 obtain ⟨b, o, cs, hA, hS, hb, ⟨A', c, rfl, h1, h2, h3⟩, hc⟩ := h.at_ hk
 refine ⟨b, o, A', c, hA, hS, hb, ?_, h1, by simpa [maxLen] using h2, h3⟩
 have := hc.c0
 rwa [show o + k * Dat.size (List α) = o + k from by show o + k * 1 = o + k; omega] at this
theorem els_pairS {x y : List α} {A B : Option Addr} {c d : Nat} (t : TypeId) (hx : Els w S x A) (hy : Els w S y B) (hc : x.length ≤ c) (hc2 : c ≤ 9223372036854775807) (hd : y.length ≤ d) (hd2 : d ≤ 9223372036854775807) :
  Els (w.alloc (.cells #[.slice A x.length c, .slice B y.length d] t)) (fun b => S b ∨ b = w.heap.size) [x, y] (some ⟨w.heap.size, 0, none⟩) := fun _ => by
 have hb : Below w.heap.size w (w.alloc (.cells #[.slice A x.length c, .slice B y.length d] t)) := (Below.refl _ _).alloc (Nat.le_refl _) _
 refine ⟨w.heap.size, 0, rfl, .inr rfl, fun i z hi => ?_⟩
 match i, hi with
 | 0, hi =>
  simp at hi; subst hi
  refine ⟨[.slice A x.length c], ⟨A, c, rfl, hc, by simpa [maxLen] using hc2, (hx.below hb).keep (fun _ _ _ => rfl) (fun b h => .inl h)⟩, fun j u hu => ?_⟩
  match j, hu with
  | 0, hu => simp at hu; subst hu; rw [show 0 + 0 * Dat.size (List α) + 0 = 0 by omega]; exact (Blk'.new w t _).cell 0
 | 1, hi =>
  simp at hi; subst hi
  refine ⟨[.slice B y.length d], ⟨B, d, rfl, hd, by simpa [maxLen] using hd2, (hy.below hb).keep (fun _ _ _ => rfl) (fun b h => .inl h)⟩, fun j u hu => ?_⟩
  match j, hu with
  | 0, hu => simp at hu; subst hu; rw [show 0 + 1 * Dat.size (List α) + 0 = 1 from rfl]; exact (Blk'.new w t _).cell 1
end
end Go.Proofs.Ytjdojogjogenkaa
