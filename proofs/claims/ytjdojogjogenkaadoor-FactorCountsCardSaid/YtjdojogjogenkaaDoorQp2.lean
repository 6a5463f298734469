/- Plain facts and definitions of this proof, of several texts joined: Short, IntCells, StabP, SortKLay, CmpL, Take, CntV, VtB, FacP, TreeBij, TakeThr, SortSLay. -/
import Derived.Test.YtjdojogjogenkaaDoorQp1
import Derived.StillTailTactics
import Derived.Laws.CopyOwn
import Derived.Deep.OwnRows
import Derived.IntWalk
import Derived.Laws.EntriesVeiled
import Derived.BigRegion
import Derived.Shelf.SlSortCmp.WholeK
import Derived.Test.YtjdojogjogenkaaDoorChecked
/- Steps of a region that draws its order, with their checks by themselves. No program is named here. -/
namespace Go.Proofs.YtjdojogjogenkaaDoor
open Go.RowKit
set_option linter.unusedVariables false
theorem sA {α : Type} {i : Nat} {a : α} {l : List α} : l.toArray.setIfInBounds i a = (l.set i a).toArray := List.setIfInBounds_toArray ..
theorem sB {α : Type} {x a : α} {l : List α} : (x :: l).set 0 a = a :: l := rfl
theorem sC {α : Type} {x a : α} {n : Nat} {l : List α} : (x :: l).set (n + 1) a = x :: l.set n a := rfl
section
variable {P : Program} {l : List Oper} {Q : Exit → Act → World → Prop} {md : Region.Mode} {S : World → Prop}
theorem tk (i : Nat) {oi : Oper} {rest : List Oper} {v : Value} {fuel : Nat} {listed : Array Bool} {a : Act} {w : World} (hi : l.drop i = oi :: rest)
  (hy : ∀ w, S w → (execOp a.eval oi).run P w = .ok (.value v) w)
  (h : wpAnyH P md l.toArray Q S fuel (listed.setIfInBounds i true) (a.put oi.dst v) w)
  (hs : Region.noSelect l.toArray = true := by kernel_rfl) (hf : Region.free md l.toArray listed i = true := by kernel_rfl) (hr : (Region.ready md l.toArray listed).contains i = true := by kernel_rfl)
  (hQ : ∀ c a w, Q (.panic c) (a.put oi.dst v) w → Q (.panic c) a w := by exact fun _ _ _ h => h) (hw : Region.wanted oi (yielded l.toArray a.tmps) = true := by rfl) (hS : S w := by assumption) : wpAnyH P md l.toArray Q S (fuel + 1) listed a w :=
 take_run hi hs hf hr hQ hw hy hS h
theorem tb (i : Nat) {oi : Oper} {rest : List Oper} {fuel : Nat} {listed : Array Bool} {a : Act} {w : World} (hi : l.drop i = oi :: rest)
  (h : wpAnyH P md l.toArray Q S fuel (listed.setIfInBounds i true) (a.put oi.dst undef) w)
  (hs : Region.noSelect l.toArray = true := by kernel_rfl) (hf : Region.free md l.toArray listed i = true := by kernel_rfl) (hr : (Region.ready md l.toArray listed).contains i = true := by kernel_rfl)
  (hQ : ∀ c a w, Q (.panic c) (a.put oi.dst undef) w → Q (.panic c) a w := by exact fun _ _ _ h => h) (hw : Region.wanted oi (yielded l.toArray a.tmps) = false := by rfl) (hS : S w := by assumption) : wpAnyH P md l.toArray Q S (fuel + 1) listed a w :=
 take_bar hi hs hf hr hQ hw hS h
end
section
variable {P : Program} {l : List Oper} {Q : Exit → Act → World → Prop} {md : Region.Mode} {S : World → Prop} {d : Nat}
theorem sk (i : Nat) {oi : Oper} {rest : List Oper} {v : Value} {fuel : Nat} {listed : Array Bool} {a : Act} {w : World} (hi : l.drop i = oi :: rest)
  (hy : ∀ w, (execOp a.eval oi).run P w = .ok (.value v) w)
  (h : wpAnyD P md l.toArray Q S d fuel (listed.setIfInBounds i true) (a.put oi.dst v) w)
  (hs : Region.noSelect l.toArray = true := by kernel_rfl) (hf : Region.free md l.toArray listed i = true := by kernel_rfl) (hr : (Region.ready md l.toArray listed).contains i = true := by kernel_rfl) (hid : (i != d) = true := by kernel_rfl)
  (hQ : ∀ c a w, Q (.panic c) (a.put oi.dst v) w → Q (.panic c) a w := by exact fun _ _ _ h => h) (hw : Region.wanted oi (yielded l.toArray a.tmps) = true := by rfl) (hS : S w := by assumption) : wpAnyD P md l.toArray Q S d (fuel + 1) listed a w :=
 st_pure hi hs hf hr hid hQ hw hy (.inl hS) h
theorem sl (i : Nat) {oi : Oper} {rest : List Oper} {v : Value} {fuel : Nat} {listed : Array Bool} {a : Act} {w : World} (hi : l.drop i = oi :: rest)
  (hy : ∀ w, S w → (execOp a.eval oi).run P w = .ok (.value v) w)
  (h : wpAnyD P md l.toArray Q S d fuel (listed.setIfInBounds i true) (a.put oi.dst v) w)
  (hs : Region.noSelect l.toArray = true := by kernel_rfl) (hf : Region.free md l.toArray listed i = true := by kernel_rfl) (hr : (Region.ready md l.toArray listed).contains i = true := by kernel_rfl) (hid : (i != d && waitsB md l.toArray d i && !listed.getD d false) = true := by kernel_rfl)
  (hQ : ∀ c a w, Q (.panic c) (a.put oi.dst v) w → Q (.panic c) a w := by exact fun _ _ _ h => h) (hw : Region.wanted oi (yielded l.toArray a.tmps) = true := by rfl) (hS : S w := by assumption) : wpAnyD P md l.toArray Q S d (fuel + 1) listed a w :=
 st_run hi hs hf hr hid hQ hw hy hS h
theorem sbar (i : Nat) {oi : Oper} {rest : List Oper} {fuel : Nat} {listed : Array Bool} {a : Act} {w : World} (hi : l.drop i = oi :: rest)
  (h : wpAnyD P md l.toArray Q S d fuel (listed.setIfInBounds i true) (a.put oi.dst undef) w)
  (hs : Region.noSelect l.toArray = true := by kernel_rfl) (hf : Region.free md l.toArray listed i = true := by kernel_rfl) (hr : (Region.ready md l.toArray listed).contains i = true := by kernel_rfl) (hid : (i != d) = true := by kernel_rfl)
  (hQ : ∀ c a w, Q (.panic c) (a.put oi.dst undef) w → Q (.panic c) a w := by exact fun _ _ _ h => h) (hw : Region.wanted oi (yielded l.toArray a.tmps) = false := by rfl) (hS : S w := by assumption) : wpAnyD P md l.toArray Q S d (fuel + 1) listed a w :=
 st_bar hi hs hf hr hid hQ hw (.inl hS) h
end
end Go.Proofs.YtjdojogjogenkaaDoor
/- Rows of numbers that are known whole; made. -/
namespace Go.Proofs.YtjdojogjogenkaaDoor
open Go.RowKit
set_option linter.unusedVariables false
def icells (l : List Int) : Array Value := (l.map fun x => Value.int .i64 x).toArray
theorem icells_size (l : List Int) : (icells l).size = l.length := by simp [icells]
theorem icells_get {l : List Int} {i : Nat} {x : Int} (h : l[i]? = some x) : (icells l)[i]? = some (.int .i64 x) := by simp [icells, h]
theorem icells_set (l : List Int) (i : Nat) (x : Int) : (icells l).setIfInBounds i (.int .i64 x) = icells (l.set i x) := by
 apply Array.ext'
 simp [icells, List.map_set]
theorem icells_made (n : Nat) : madeCells #[.int .i64 0] n = icells (List.replicate n 0) := by
 apply Array.ext'
 simp only [madeCells, icells, Array.toList_map, Array.toList_range, List.map_replicate]
 apply List.ext_getElem
 ·simp
 ·intro i h1 h2
  simp [Nat.mod_one]
theorem els_icells {w : World} {S : Nat → Prop} {g : Nat} {t : TypeId} {ms : List Int} (hb : Blk' w g t (icells ms)) (h : ∀ v ∈ ms, I64 v) (hS : S g) : Els w S ms (some ⟨g, 0, none⟩) :=
 fun _ => ⟨g, 0, rfl, hS, fun i x hi => ⟨[.int .i64 x], ⟨rfl, h x (List.mem_of_getElem? hi)⟩, fun j u hu => by
  match j, hu with
  | 0, hu =>
   simp at hu; subst hu
   have e : 0 + i * Dat.size Int + 0 = i := by show 0 + i * 1 + 0 = i; omega
   rw [e, hb.cell]
   exact icells_get hi⟩⟩
theorem mkInts (n : Nat) (hn : n ≤ 1000000) (W : World) : (Instr.makeSlice 33 (.int .i64 (n : Int)) (.int .i64 (n : Int))).run Tryd.prog W = .ok (.slice (some ⟨W.heap.size, 0, none⟩) n n) (W.alloc (.cells (icells (List.replicate n 0)) 3)) := by
 rw [← icells_made]
 exact run_make_row' (P := Tryd.prog) 33 3 (.int .i64 0) 8 Tryd.underlying33 infoInt rfl .i64 .i64 n (by omega) (by omega) W
end Go.Proofs.YtjdojogjogenkaaDoor
/- A row of packs (a rule and a slice of kids each) at the head of a block: its elements read, two changed. -/
namespace Go.Proofs.YtjdojogjogenkaaDoor
open Go.RowKit
set_option linter.unusedVariables false
structure PkV where
 r : Int
 a : Option Addr
 n : Nat
 c : Nat
def PkV.v (p : PkV) : Value := .agg #[.int .i64 p.r, .slice p.a p.n p.c]
def RowF (w : World) (g : Nat) (ps : List PkV) : Prop := ∃ cur, Blk' w g 155 cur ∧ ∀ (i : Nat) (p : PkV), ps[i]? = some p → cur[i * 2]? = some (.int .i64 p.r) ∧ cur[i * 2 + 1]? = some (.slice p.a p.n p.c)
theorem RowF.cell0 {w : World} {g : Nat} {ps : List PkV} (h : RowF w g ps) {i : Nat} {p : PkV} (hx : ps[i]? = some p) : w.cell? ⟨g, i * 2, none⟩ = some (.int .i64 p.r) := by
 obtain ⟨cur, hb, hc⟩ := h
 rw [hb.cell]; exact (hc i p hx).1
theorem RowF.cell1 {w : World} {g : Nat} {ps : List PkV} (h : RowF w g ps) {i : Nat} {p : PkV} (hx : ps[i]? = some p) : w.cell? ⟨g, i * 2 + 1, none⟩ = some (.slice p.a p.n p.c) := by
 obtain ⟨cur, hb, hc⟩ := h
 rw [hb.cell]; exact (hc i p hx).2
theorem RowF.frozen {w : World} {g : Nat} {ps : List PkV} (h : RowF w g ps) (i : Nat) : w.frozen? ⟨g, i, none⟩ = false := by
 obtain ⟨cur, hb, _⟩ := h
 exact hb.frozen i
theorem RowF.lt {w : World} {g : Nat} {ps : List PkV} (h : RowF w g ps) : g < w.heap.size := by
 obtain ⟨cur, hb, _⟩ := h
 exact hb.lt
theorem RowF.set_ {w : World} {g : Nat} {ps : List PkV} (h : RowF w g ps) (i : Nat) (p : PkV) : RowF ((w.setCell ⟨g, i * 2, none⟩ (.int .i64 p.r)).setCell ⟨g, i * 2 + 1, none⟩ (.slice p.a p.n p.c)) g (ps.set i p) := by
 obtain ⟨cur, hb, hc⟩ := h
 refine ⟨_, (hb.set_ (i * 2) _).set_ (i * 2 + 1) _, fun j x hx => ?_⟩
 by_cases e : i = j
 ·subst e
  have hl : i < ps.length := by have := (List.getElem?_eq_some_iff.1 hx).1; simpa using this
  rw [List.getElem?_set_self hl] at hx
  injection hx with hx
  subst hx
  have h2 := hc i ps[i] (List.getElem?_eq_getElem hl)
  have h3 := (Array.getElem?_eq_some_iff.1 h2.1).1
  have h4 := (Array.getElem?_eq_some_iff.1 h2.2).1
  refine ⟨?_, ?_⟩
  ·simp [Array.getElem?_setIfInBounds, h3]
  ·simp [Array.getElem?_setIfInBounds, h4]
 ·rw [List.getElem?_set_ne e] at hx
  obtain ⟨h1, h2⟩ := hc j x hx
  refine ⟨?_, ?_⟩
  ·rw [Array.getElem?_setIfInBounds_ne (by omega), Array.getElem?_setIfInBounds_ne (by omega)]; exact h1
  ·rw [Array.getElem?_setIfInBounds_ne (by omega), Array.getElem?_setIfInBounds_ne (by omega)]; exact h2
theorem RowF.kept {w w' : World} {X : Nat → Prop} {g : Nat} {ps : List PkV} (h : RowF w g ps) (k : Kept X w w') (hx : ¬ X g) : RowF w' g ps := by
 obtain ⟨cur, hb, hc⟩ := h
 exact ⟨cur, hb.kept k hx, hc⟩
theorem RowF.below {w w' : World} {g : Nat} {ps : List PkV} (h : RowF w g ps) (k : Below w.heap.size w w') : RowF w' g ps := by
 obtain ⟨cur, hb, hc⟩ := h
 exact ⟨cur, hb.below k hb.lt, hc⟩
theorem fswap_perm {ys : List PkV} {i j : Nat} {a b : PkV} (ha : ys[i]? = some a) (hb : ys[j]? = some b) : ((ys.set i b).set j a).Perm ys := by
 obtain ⟨h1, rfl⟩ := List.getElem?_eq_some_iff.1 ha
 obtain ⟨h2, rfl⟩ := List.getElem?_eq_some_iff.1 hb
 exact List.set_set_perm h1 h2
theorem pair_kept {w w' : World} {g i : Nat} {u v : Value} (h : Kept (fun b => b = g) w w') : Kept (fun b => b = g) w ((w'.setCell ⟨g, i * 2, none⟩ u).setCell ⟨g, i * 2 + 1, none⟩ v) :=
 (h.setCell (p := ⟨g, i * 2, none⟩) (.inl rfl) _).setCell (p := ⟨g, i * 2 + 1, none⟩) (.inl rfl) _
def RetPm (w : World) (g : Nat) (ps : List PkV) (e : Ending) (w' : World) : Prop := e = .returned (.tuple #[]) ∧ ∃ qs : List PkV, RowF w' g qs ∧ qs.Perm ps ∧ Kept (fun b => b = g) w w'
def CmpOk (w0 : World) (g : Nat) (ps : List PkV) : Prop :=
 ∀ p ∈ ps, ∀ q ∈ ps, ∀ W : World, Kept (fun b => b = g) w0 W → Calls Tryd.prog 132 #[p.v, q.v] W fun e w' => (∃ k : Int, e = .returned (.int .i64 k)) ∧ Below W.heap.size W w'
theorem CmpOk.perm {w0 w1 : World} {g : Nat} {ps qs : List PkV} (h : CmpOk w0 g ps) (hp : qs.Perm ps) (hk : Kept (fun b => b = g) w0 w1) : CmpOk w1 g qs :=
 fun p hp1 q hq W hW => h p (hp.subset hp1) q (hp.subset hq) W (hk.trans hW)
theorem RetPm.refl {w : World} {g : Nat} {ps : List PkV} (h : RowF w g ps) : RetPm w g ps (.returned (.tuple #[])) w := ⟨rfl, ps, h, List.Perm.refl _, Kept.refl _ _⟩
end Go.Proofs.YtjdojogjogenkaaDoor
/- slices.SortFunc at nodes of a forest, laid for the shelf's contract. -/
namespace Go.Proofs.YtjdojogjogenkaaDoor
open Go.Shelf
def sortK_ren : Go.Shelf.Ren := ⟨fun | 6 => 129 | 15 => 150 | 14 => 155 | 28 => 170 | 29 => 171 | 20 => 172 | 21 => 173 | 22 => 174 | 23 => 175 | 24 => 176 | 25 => 177 | 26 => 178 | 27 => 179 | 46 => 191 | 47 => 187 | 48 => 188 | 49 => 192 | 50 => 193 | 57 => 197 | n => n, fun | 22 => 198 | 24 => 194 | 25 => 205 | 3 => 3 | 39 => 182 | 0 => 0 | 53 => 195 | 55 => 223 | 4 => 4 | 46 => 244 | 45 => 243 | 50 => 219 | 5 => 5 | 9 => 9 | 66 => 260 | 70 => 107 | 76 => 267 | 77 => 268 | n => n, fun | n => n⟩
theorem sortK : Go.Proofs.SlLaysF0.n6 Tryd.prog sortK_ren := {
 mixed := by kernel_rfl,
 f6 := ⟨Tryd.f129.name, by decide, Tryd.func129.trans (congrArg some (by kernel_rfl))⟩,
 f14 := ⟨Tryd.f155.name, by decide, Tryd.func155.trans (congrArg some (by kernel_rfl))⟩,
 f15 := Tryd.func150.trans (congrArg some (by kernel_rfl)),
 f20 := ⟨Tryd.f172.name, by decide, Tryd.func172.trans (congrArg some (by kernel_rfl))⟩,
 f21 := ⟨Tryd.f173.name, by decide, Tryd.func173.trans (congrArg some (by kernel_rfl))⟩,
 f22 := ⟨Tryd.f174.name, by decide, Tryd.func174.trans (congrArg some (by kernel_rfl))⟩,
 f23 := ⟨Tryd.f175.name, by decide, Tryd.func175.trans (congrArg some (by kernel_rfl))⟩,
 f24 := ⟨Tryd.f176.name, by decide, Tryd.func176.trans (congrArg some (by kernel_rfl))⟩,
 f25 := ⟨Tryd.f177.name, by decide, Tryd.func177.trans (congrArg some (by kernel_rfl))⟩,
 f26 := ⟨Tryd.f178.name, by decide, Tryd.func178.trans (congrArg some (by kernel_rfl))⟩,
 f27 := ⟨Tryd.f179.name, by decide, Tryd.func179.trans (congrArg some (by kernel_rfl))⟩,
 f28 := Tryd.func170.trans (congrArg some (by kernel_rfl)),
 f29 := Tryd.func171.trans (congrArg some (by kernel_rfl)),
 f46 := ⟨Tryd.f191.name, by decide, Tryd.func191.trans (congrArg some (by kernel_rfl))⟩,
 f47 := Tryd.func187.trans (congrArg some (by kernel_rfl)),
 f48 := Tryd.func188.trans (congrArg some (by kernel_rfl)),
 f49 := ⟨Tryd.f192.name, by decide, Tryd.func192.trans (congrArg some (by kernel_rfl))⟩,
 f50 := ⟨Tryd.f193.name, by decide, Tryd.func193.trans (congrArg some (by kernel_rfl))⟩,
 f57 := ⟨Tryd.f197.name, by decide, Tryd.func197.trans (congrArg some (by kernel_rfl))⟩,
 t0 := Tryd.underlying0,
 a0 := Tryd.isAgg0,
 z0 := Tryd.sizeOf0,
 v0 := Tryd.zeroValue0,
 t3 := Tryd.underlying3,
 a3 := Tryd.isAgg3,
 z3 := Tryd.sizeOf3,
 v3 := Tryd.zeroValue3,
 t4 := Tryd.underlying4,
 a4 := Tryd.isAgg4,
 z4 := Tryd.sizeOf4,
 v4 := Tryd.zeroValue4,
 t5 := Tryd.underlying5,
 a5 := Tryd.isAgg5,
 z5 := Tryd.sizeOf5,
 v5 := Tryd.zeroValue5,
 t9 := Tryd.underlying9,
 a9 := Tryd.isAgg9,
 z9 := Tryd.sizeOf9,
 v9 := Tryd.zeroValue9,
 t22 := Tryd.underlying198,
 a22 := Tryd.isAgg198,
 z22 := Tryd.sizeOf198,
 v22 := Tryd.zeroValue198,
 t25 := Tryd.underlying205,
 a25 := Tryd.isAgg205,
 z25 := Tryd.sizeOf205,
 v25 := Tryd.zeroValue205,
 t39 := Tryd.underlying182,
 a39 := Tryd.isAgg182,
 z39 := Tryd.sizeOf182,
 v39 := Tryd.zeroValue182,
 t45 := Tryd.underlying243,
 a45 := Tryd.isAgg243,
 z45 := Tryd.sizeOf243,
 v45 := Tryd.zeroValue243,
 t46 := Tryd.underlying244,
 a46 := Tryd.isAgg244,
 z46 := Tryd.sizeOf244,
 v46 := Tryd.zeroValue244,
 t50 := Tryd.underlying219,
 a50 := Tryd.isAgg219,
 z50 := Tryd.sizeOf219,
 v50 := Tryd.zeroValue219,
 t53 := Tryd.underlying195,
 a53 := Tryd.isAgg195,
 z53 := Tryd.sizeOf195,
 v53 := Tryd.zeroValue195,
 t55 := Tryd.underlying223,
 a55 := Tryd.isAgg223,
 z55 := Tryd.sizeOf223,
 v55 := Tryd.zeroValue223,
 t66 := Tryd.underlying260,
 a66 := Tryd.isAgg260,
 z66 := Tryd.sizeOf260,
 v66 := Tryd.zeroValue260,
 t70 := Tryd.underlying107,
 a70 := Tryd.isAgg107,
 z70 := Tryd.sizeOf107,
 v70 := Tryd.zeroValue107,
 t76 := Tryd.underlying267,
 a76 := Tryd.isAgg267,
 z76 := Tryd.sizeOf267,
 v76 := Tryd.zeroValue267,
 t77 := Tryd.underlying268,
 a77 := Tryd.isAgg268,
 z77 := Tryd.sizeOf268,
 v77 := Tryd.zeroValue268 }
end Go.Proofs.YtjdojogjogenkaaDoor
/- Plain: the order of lists of ints. No program is named here. -/
namespace Go.Proofs.YtjdojogjogenkaaDoor
open Go.RowKit
set_option linter.unusedVariables false
def cmpL : List Int → List Int → Int
 | [], [] => 0
 | [], _ :: _ => -1
 | _ :: _, [] => 1
 | x :: xs, y :: ys => if x < y then -1 else if y < x then 1 else cmpL xs ys
end Go.Proofs.YtjdojogjogenkaaDoor
/- Lists alike up to a place. -/
namespace Go.Proofs.YtjdojogjogenkaaDoor
open Go.RowKit
set_option linter.unusedVariables false
theorem take_ne {α : Type} {xs ys : List α} {k : Nat} {x y : α} (hx : xs[k]? = some x) (hy : ys[k]? = some y) (h : x ≠ y) : xs ≠ ys := by
 rintro rfl; rw [hx] at hy; exact h (by injection hy)
theorem take_eq {α : Type} {xs ys : List α} {k : Nat} {x y : α} (hx : xs[k]? = some x) (hy : ys[k]? = some y) (h : x = y) (ht : xs.take k = ys.take k) : xs.take (k + 1) = ys.take (k + 1) := by
 rw [take_snoc hx, take_snoc hy, ht, h]
theorem take_all {α : Type} {xs ys : List α} {k : Nat} (hl : xs.length = ys.length) (hk : xs.length ≤ k) (ht : xs.take k = ys.take k) : xs = ys := by
 rwa [List.take_of_length_le hk, List.take_of_length_le (by omega)] at ht
end Go.Proofs.YtjdojogjogenkaaDoor
/- The plain law of core.Count's visit: what the rows of states and counts are on the way. No program is named here. -/
namespace Go.Proofs.YtjdojogjogenkaaDoor
set_option linter.unusedVariables false
def gd (l : List Int) (u : Nat) : Int := l.getD u 0
theorem gd_set (l : List Int) (i : Nat) (x : Int) (j : Nat) (hi : i < l.length) : gd (l.set i x) j = if j = i then x else gd l j := by
 unfold gd
 rw [List.getD_eq_getElem?_getD, List.getElem?_set, List.getD_eq_getElem?_getD]
 by_cases e : i = j
 ·subst e; simp [hi]
 ·rw [if_neg e, if_neg (fun h => e h.symm)]
theorem gd_get {l : List Int} {i : Nat} {x : Int} (h : l[i]? = some x) : gd l i = x := by
 unfold gd
 rw [List.getD_eq_getElem?_getD, h]
 rfl
theorem gd_some {l : List Int} {i : Nat} (h : i < l.length) : l[i]? = some (gd l i) := by
 unfold gd
 rw [List.getD_eq_getElem?_getD, List.getElem?_eq_getElem h]
 rfl
def zeros (l : List Int) : Nat := (l.filter fun x => decide (x = 0)).length
theorem zeros_set : ∀ (l : List Int) (i : Nat) (x : Int), gd l i = 0 → i < l.length → x ≠ 0 → zeros (l.set i x) < zeros l
 | [], i, x, _, h, _ => by simp at h
 | a :: l, 0, x, h, _, hx => by
  have h : a = 0 := h
  subst h
  simp [zeros, hx]
 | a :: l, i + 1, x, h, hl, hx => by
  have ih := zeros_set l i x h (by simpa using hl) hx
  by_cases ha : a = 0
  ·simp [zeros, ha] at ih ⊢; omega
  ·simp [zeros, ha] at ih ⊢; exact ih
theorem zeros_le : ∀ (l : List Int) (i : Nat) (x : Int), x ≠ 0 → zeros (l.set i x) ≤ zeros l
 | [], i, x, _ => by simp
 | a :: l, 0, x, hx => by
  by_cases ha : a = 0
  ·simp [zeros, ha, hx]
  ·simp [zeros, ha, hx]
 | a :: l, i + 1, x, hx => by
  have ih := zeros_le l i x hx
  by_cases ha : a = 0
  ·simp [zeros, ha] at ih ⊢; omega
  ·simp [zeros, ha] at ih ⊢; exact ih
def cnF (cn : List Int) : Nat → Nat := fun k => (gd cn k).toNat
theorem prodM_congr {f f' : Nat → Nat} : ∀ (l : List Int) (x : Nat), (∀ k ∈ l, f k.toNat = f' k.toNat) → prodM f x l = prodM f' x l
 | [], x, _ => rfl
 | k :: l, x, h => by
  show prodM f (min (x * f k.toNat) lim) l = prodM f' (min (x * f' k.toNat) lim) l
  rw [h k (by simp), prodM_congr l _ (fun j hj => h j (by simp [hj]))]
theorem sumM_congr {f f' : Nat → Nat} : ∀ (J : List (List Int)) (x : Nat), (∀ l ∈ J, ∀ k ∈ l, f k.toNat = f' k.toNat) → sumM f x J = sumM f' x J
 | [], x, _ => rfl
 | l :: J, x, h => by
  show sumM f (min (x + prodM f 1 l) lim) J = sumM f' (min (x + prodM f' 1 l) lim) J
  rw [prodM_congr l 1 (h l (by simp)), sumM_congr J _ (fun j hj => h j (by simp [hj]))]
theorem prodM_snoc (f : Nat → Nat) (x : Nat) (l : List Int) (k : Int) : prodM f x (l ++ [k]) = min (prodM f x l * f k.toNat) lim := by
 unfold prodM
 rw [List.foldl_append]
 rfl
theorem sumM_snoc (f : Nat → Nat) (x : Nat) (J : List (List Int)) (l : List Int) : sumM f x (J ++ [l]) = min (sumM f x J + prodM f 1 l) lim := by
 unfold sumM
 rw [List.foldl_append]
 rfl
theorem prodM_le (f : Nat → Nat) (l : List Int) : prodM f 1 l ≤ lim := by
 have key : ∀ (l : List Int) (x : Nat), x ≤ lim → prodM f x l ≤ lim := by
  intro l
  induction l with
  | nil => intro x h; exact h
  | cons k l ih => intro x _; exact ih _ (Nat.min_le_right _ _)
 exact key l 1 (by decide)
theorem sumM_le (f : Nat → Nat) (x : Nat) (J : List (List Int)) (hx : x ≤ lim) : sumM f x J ≤ lim := by
 induction J generalizing x with
 | nil => exact hx
 | cons l J ih => exact ih _ (Nat.min_le_right _ _)
structure StI (F : List FNode) (st cn : List Int) : Prop where
 sl : st.length = F.length
 cl : cn.length = F.length
 at_ : ∀ u, u < F.length → (gd st u = 0 ∧ gd cn u = 0 ∨ gd st u = 1 ∨ gd st u = 2 ∧ Cn F u (gd cn u).toNat) ∧ 0 ≤ gd cn u ∧ gd cn u ≤ 1000000000
structure Mv (F : List FNode) (st cn st' cn' : List Int) : Prop where
 ok : StI F st' cn'
 one : ∀ u, u < F.length → (gd st' u = 1 ↔ gd st u = 1)
 two : ∀ u, u < F.length → gd st u = 2 → gd st' u = 2 ∧ gd cn' u = gd cn u
 onec : ∀ u, u < F.length → gd st u = 1 → gd cn' u = gd cn u
 zer : zeros st' ≤ zeros st
theorem Mv.refl {F : List FNode} {st cn : List Int} (h : StI F st cn) : Mv F st cn st cn := ⟨h, fun _ _ => Iff.rfl, fun _ _ h => ⟨h, rfl⟩, fun _ _ _ => rfl, Nat.le_refl _⟩
structure InV (F : List FNode) (st cn : List Int) (v init : Nat) (J : List (List Int)) (st' cn' : List Int) : Prop where
 ok : StI F st' cn'
 one : ∀ u, u < F.length → (gd st' u = 1 ↔ gd st u = 1 ∨ u = v)
 two : ∀ u, u < F.length → gd st u = 2 → gd st' u = 2 ∧ gd cn' u = gd cn u
 onec : ∀ u, u < F.length → gd st u = 1 → gd cn' u = gd cn u
 zer : zeros st' < zeros st
 cnv : gd cn' v = ((sumM (cnF cn') init J : Nat) : Int)
 done : ∀ l ∈ J, ∀ k ∈ l, gd st' k.toNat = 2
 v0 : gd st v = 0
 vl : v < F.length
theorem InV.begin {F : List FNode} {st cn : List Int} (h : StI F st cn) {v : Nat} (hv : v < F.length) (h0 : gd st v = 0) (t : Bool) : InV F st cn v (if t then 1 else 0) [] (st.set v 1) (if t then cn.set v 1 else cn) := by
 have hs : v < st.length := by rw [h.sl]; exact hv
 have hc : v < cn.length := by rw [h.cl]; exact hv
 have hz : gd cn v = 0 := by
  rcases (h.at_ v hv).1 with h1 | h1 | h1
  ·exact h1.2
  ·omega
  ·omega
 have e1 : ∀ u, gd (st.set v 1) u = if u = v then 1 else gd st u := fun u => gd_set st v 1 u hs
 have e2 : ∀ u, gd (if t then cn.set v 1 else cn) u = if u = v then (if t then 1 else 0) else gd cn u := fun u => by
  cases t
  ·simp only [Bool.false_eq_true, if_false]
   split
   ·rename_i e; rw [e, hz]
   ·rfl
  ·simp only [if_true]
   exact gd_set cn v 1 u hc
 refine ⟨⟨by rw [List.length_set]; exact h.sl, by cases t <;> simp [h.cl], fun u hu => ?_⟩, fun u hu => ?_, fun u hu h2 => ?_, fun u hu h2 => ?_, zeros_set st v 1 h0 hs (by decide), ?_, by simp, h0, hv⟩
 ·rw [e1, e2]
  by_cases e : u = v
  ·rw [if_pos e, if_pos e]
   cases t <;> simp
  ·rw [if_neg e, if_neg e]; exact h.at_ u hu
 ·rw [e1]
  by_cases e : u = v
  ·simp [e]
  ·simp [e]
 ·rw [e1, e2]
  have e : u ≠ v := fun e => by rw [e, h0] at h2; cases h2
  rw [if_neg e, if_neg e]; exact ⟨h2, rfl⟩
 ·rw [e2]
  have e : u ≠ v := fun e => by rw [e, h0] at h2; cases h2
  rw [if_neg e]
 ·rw [e2, if_pos rfl]
  cases t <;> rfl
theorem InV.kid {F : List FNode} {st cn st1 cn1 st2 cn2 : List Int} {v init : Nat} {J : List (List Int)} (h : InV F st cn v init J st1 cn1) (hk : ∀ l ∈ J, ∀ k ∈ l, k.toNat < F.length) (m : Mv F st1 cn1 st2 cn2) : InV F st cn v init J st2 cn2 := by
 refine ⟨m.ok, fun u hu => (m.one u hu).trans (h.one u hu), fun u hu h2 => ?_, fun u hu h1 => ?_, Nat.lt_of_le_of_lt m.zer h.zer, ?_, fun l hl k hkl => ?_, h.v0, h.vl⟩
 ·obtain ⟨a, b⟩ := h.two u hu h2
  obtain ⟨c, d⟩ := m.two u hu a
  exact ⟨c, d.trans b⟩
 ·rw [m.onec u hu ((h.one u hu).2 (.inl h1))]; exact h.onec u hu h1
 ·rw [m.onec v h.vl ((h.one v h.vl).2 (.inr rfl)), h.cnv]
  rw [sumM_congr J init (fun l hl k hkl => ?_)]
  unfold cnF
  rw [(m.two k.toNat (hk l hl k hkl) (h.done l hl k hkl)).2]
 ·exact (m.two k.toNat (hk l hl k hkl) (h.done l hl k hkl)).1
theorem InV.pack {F : List FNode} {st cn st1 cn1 : List Int} {v init : Nat} {J : List (List Int)} (h : InV F st cn v init J st1 cn1) (hk : ∀ l ∈ J, ∀ k ∈ l, k.toNat < F.length) (l : List Int) (hl : ∀ k ∈ l, k.toNat < F.length ∧ gd st1 k.toNat = 2) (x : Int) (hx : x = ((min (sumM (cnF cn1) init J + prodM (cnF cn1) 1 l) lim : Nat) : Int)) : InV F st cn v init (J ++ [l]) st1 (cn1.set v x) := by
 have hc : v < cn1.length := by rw [h.ok.cl]; exact h.vl
 have e2 : ∀ u, gd (cn1.set v x) u = if u = v then x else gd cn1 u := fun u => gd_set cn1 v x u hc
 have hv1 : gd st1 v = 1 := (h.one v h.vl).2 (.inr rfl)
 have hne : ∀ u, gd st1 u = 2 → u ≠ v := fun u h2 e => by rw [e, hv1] at h2; cases h2
 have hcong : ∀ k : Int, gd st1 k.toNat = 2 → cnF (cn1.set v x) k.toNat = cnF cn1 k.toNat := fun k h2 => by
  unfold cnF
  rw [e2, if_neg (hne _ h2)]
 refine ⟨⟨h.ok.sl, by rw [List.length_set]; exact h.ok.cl, fun u hu => ?_⟩, h.one, fun u hu h2 => ?_, fun u hu h1 => ?_, h.zer, ?_, fun l' hl' k hkl => ?_, h.v0, h.vl⟩
 ·rw [e2]
  by_cases e : u = v
  ·rw [if_pos e]
   refine ⟨.inr (.inl (by rw [e]; exact hv1)), by rw [hx]; omega, by rw [hx]; have : min (sumM (cnF cn1) init J + prodM (cnF cn1) 1 l) lim ≤ lim := Nat.min_le_right _ _; have e3 : lim = 1000000000 := rfl; omega⟩
  ·rw [if_neg e]; exact h.ok.at_ u hu
 ·obtain ⟨a, b⟩ := h.two u hu h2
  rw [e2, if_neg (hne u a)]
  exact ⟨a, b⟩
 ·have e : u ≠ v := fun e => by rw [e, h.v0] at h1; cases h1
  rw [e2, if_neg e]; exact h.onec u hu h1
 ·rw [e2, if_pos rfl, sumM_snoc, sumM_congr J init (fun l' hl' k hkl => hcong k (h.done l' hl' k hkl)), prodM_congr l 1 (fun k hkl => hcong k (hl k hkl).2)]
  exact hx
 ·rcases List.mem_append.1 hl' with hl' | hl'
  ·exact h.done l' hl' k hkl
  ·simp at hl'; subst hl'; exact (hl k hkl).2
theorem InV.end_ {F : List FNode} {st cn st1 cn1 : List Int} {v : Nat} {nd : FNode} (hnd : F[v]? = some nd) (h : InV F st cn v (if nd.sym.term then 1 else 0) (nd.packs.map (·.kids)) st1 cn1) (hk : ∀ p ∈ nd.packs, ∀ k ∈ p.kids, k.toNat < F.length) : Mv F st cn (st1.set v 2) cn1 ∧ gd (st1.set v 2) v = 2 := by
 have hs : v < st1.length := by rw [h.ok.sl]; exact h.vl
 have e1 : ∀ u, gd (st1.set v 2) u = if u = v then 2 else gd st1 u := fun u => gd_set st1 v 2 u hs
 have hcn : Cn F v (gd cn1 v).toNat := by
  have h1 := Cn.mk v nd (cnF cn1) hnd (fun p hp k hkp => by
   have h2 := h.done p.kids (List.mem_map.2 ⟨p, hp, rfl⟩) k hkp
   rcases (h.ok.at_ k.toNat (hk p hp k hkp)).1 with h3 | h3 | h3
   ·omega
   ·omega
   ·exact h3.2)
  rw [h.cnv, Int.toNat_natCast]
  exact h1
 refine ⟨⟨⟨by rw [List.length_set]; exact h.ok.sl, h.ok.cl, fun u hu => ?_⟩, fun u hu => ?_, fun u hu h2 => ?_, h.onec, Nat.le_trans (zeros_le st1 v 2 (by decide)) (Nat.le_of_lt h.zer)⟩, by rw [e1, if_pos rfl]⟩
 ·rw [e1]
  by_cases e : u = v
  ·rw [if_pos e, e]; exact ⟨.inr (.inr ⟨rfl, hcn⟩), (h.ok.at_ v h.vl).2⟩
  ·rw [if_neg e]; exact h.ok.at_ u hu
 ·rw [e1]
  by_cases e : u = v
  ·rw [if_pos e, e, h.v0]; simp
  ·rw [if_neg e, h.one u hu]; simp [e]
 ·rw [e1]
  have e : u ≠ v := fun e => by rw [e, h.v0] at h2; cases h2
  rw [if_neg e]
  exact h.two u hu h2
theorem StI.init (F : List FNode) : StI F (List.replicate F.length 0) (List.replicate F.length 0) := by
 have e : ∀ u, gd (List.replicate F.length 0) u = 0 := fun u => by
  unfold gd
  rw [List.getD_eq_getElem?_getD, List.getElem?_replicate]
  split <;> rfl
 exact ⟨by simp, by simp, fun u hu => by rw [e]; simp⟩
end Go.Proofs.YtjdojogjogenkaaDoor
/- Plain: trees of a grammar, small laws. No program is named here. -/
namespace Go.Proofs.YtjdojogjogenkaaDoor
set_option linter.unusedVariables false
section
variable {g : Gram}
theorem vtSomeB {t : Tree} {l : Int} (h : vt g t ⟨false, l⟩) : ∃ (i : Nat) (q : Rule) (ks : List Tree), t = ⟨(i : Int), 0, ks⟩ ∧ g.rules[i]? = some q ∧ q.left = l ∧ vts g ks q.right := by
 obtain ⟨r, t, ks⟩ := t
 unfold vt at h
 simp only [Bool.false_eq_true, if_false] at h
 obtain ⟨rfl, hr, q, hq, hl, hk⟩ := h
 exact ⟨r.toNat, q, ks, by rw [Int.toNat_of_nonneg hr], hq, hl, hk⟩
theorem vtMkB {i : Nat} {q : Rule} {ks : List Tree} (h : g.rules[i]? = some q) (hk : vts g ks q.right) : vt g ⟨(i : Int), 0, ks⟩ ⟨false, q.left⟩ := by
 unfold vt
 simp only [Bool.false_eq_true, if_false]
 exact ⟨trivial, by omega, q, by rw [Int.toNat_natCast]; exact h, rfl, hk⟩
theorem vtTermB {t : Tree} {s : Sym} (h : vt g t s) (hs : s.term = true) : t = ⟨-1, s.n, []⟩ := by
 obtain ⟨r, t, ks⟩ := t
 unfold vt at h
 rw [if_pos hs] at h
 obtain ⟨rfl, rfl, rfl⟩ := h
 rfl
theorem vtLeafB {s : Sym} (hs : s.term = true) : vt g ⟨-1, s.n, []⟩ s := by
 unfold vt
 rw [if_pos hs]
 exact ⟨rfl, rfl, rfl⟩
theorem yieldNodeB {r t : Int} {ks : List Tree} (h : 0 ≤ r) : yieldT ⟨r, t, ks⟩ = yields ks := by rw [yieldT, if_neg (by omega)]
theorem yieldsOneB (e : Tree) : yields [e] = yieldT e := by simp [yields]
theorem nodesMkB (r t : Int) (ks : List Tree) : nodesT ⟨r, t, ks⟩ = 1 + nodesL ks := by rw [nodesT]
theorem nodesOneB (e : Tree) : nodesL [e] = nodesT e := by simp [nodesL]
theorem nodesMemB : ∀ {ks : List Tree} {k : Tree}, k ∈ ks → nodesT k ≤ nodesL ks
 | x :: ks, k, h => by
  rw [nodesL]
  rcases List.mem_cons.1 h with rfl | h
  ·omega
  ·have := nodesMemB h; omega
theorem vts_lenB : ∀ {ks : List Tree} {ss : List Sym}, vts g ks ss → ks.length = ss.length
 | [], [], _ => rfl
 | [], _ :: _, h => by simp [vts] at h
 | _ :: _, [], h => by simp [vts] at h
 | k :: ks, s :: ss, h => by
  simp only [vts] at h
  simp [vts_lenB h.2]
theorem vts_appB : ∀ {ks : List Tree} {ss : List Sym} {js : List Tree} {us : List Sym}, vts g ks ss → vts g js us → vts g (ks ++ js) (ss ++ us)
 | [], [], js, us, _, h => h
 | [], _ :: _, _, _, h, _ => by simp [vts] at h
 | _ :: _, [], _, _, h, _ => by simp [vts] at h
 | k :: ks, s :: ss, js, us, h, h2 => by
  simp only [vts] at h
  simp only [List.cons_append, vts]
  exact ⟨h.1, vts_appB h.2 h2⟩
theorem vts_cutB : ∀ {ss : List Sym} {us : List Sym} {ks : List Tree}, vts g ks (ss ++ us) → vts g (ks.take ss.length) ss ∧ vts g (ks.drop ss.length) us
 | [], us, ks, h => ⟨by simp [vts], by simpa using h⟩
 | s :: ss, us, [], h => by simp [vts] at h
 | s :: ss, us, k :: ks, h => by
  simp only [List.cons_append, vts] at h
  have := vts_cutB h.2
  simp only [List.length_cons, List.take_succ_cons, List.drop_succ_cons, vts]
  exact ⟨⟨h.1, this.1⟩, this.2⟩
theorem vts_oneB {k : Tree} {s : Sym} (h : vt g k s) : vts g [k] [s] := by simp only [vts]; exact ⟨h, trivial⟩
end
end Go.Proofs.YtjdojogjogenkaaDoor
/- Plain law of a step of factoring: the trees of both grammars answer to each other, with the same words. No program is named here. -/
namespace Go.Proofs.YtjdojogjogenkaaDoor
set_option linter.unusedVariables false
mutual
def ftT (tov tail : List Int) (cm : Nat) (hd : Int) : Tree → Tree
 | ⟨r, t, ks⟩ => if r < 0 then ⟨-1, t, []⟩ else if 0 ≤ tov.getD r.toNat 0 then ⟨tov.getD r.toNat 0, 0, ftL tov tail cm hd ks⟩ else ⟨hd, 0, (ftL tov tail cm hd ks).take cm ++ [⟨tail.getD r.toNat 0, 0, (ftL tov tail cm hd ks).drop cm⟩]⟩
def ftL (tov tail : List Int) (cm : Nat) (hd : Int) : List Tree → List Tree
 | [] => []
 | k :: ks => ftT tov tail cm hd k :: ftL tov tail cm hd ks
end
def kidR (cm : Nat) (ks : List Tree) : Int := match ks[cm]? with | some k => k.rule | none => 0
mutual
def fbT (tov tail : List Int) (cm : Nat) (hd : Int) : Tree → Tree
 | ⟨r, t, ks⟩ => if r < 0 then ⟨-1, t, []⟩ else if r = hd then ⟨idxI (fun x => kidR cm ks == x) tail, 0, fbH tov tail cm hd cm ks⟩ else ⟨idxI (fun x => r == x) tov, 0, fbL tov tail cm hd ks⟩
def fbH (tov tail : List Int) (cm : Nat) (hd : Int) : Nat → List Tree → List Tree
 | _, [] => []
 | 0, ⟨_, _, ks⟩ :: _ => fbL tov tail cm hd ks
 | j + 1, k :: ks => fbT tov tail cm hd k :: fbH tov tail cm hd j ks
def fbL (tov tail : List Int) (cm : Nat) (hd : Int) : List Tree → List Tree
 | [] => []
 | k :: ks => fbT tov tail cm hd k :: fbL tov tail cm hd ks
end
structure FacOk (g h : Gram) (cm : Nat) (hd : Int) (tov tail : List Int) : Prop where
 start : h.start = g.start
 hd0 : 0 ≤ hd
 head : ∃ a pre, h.rules[hd.toNat]? = some ⟨a, pre ++ [⟨false, g.nons⟩]⟩ ∧ pre.length = cm ∧ ∀ (i : Nat) (q : Rule), g.rules[i]? = some q → tov[i]? = some (-1) → q.left = a ∧ q.right.take cm = pre ∧ cm ≤ q.right.length
 there : ∀ (i : Nat) (q : Rule), g.rules[i]? = some q → (∃ r : Nat, tov[i]? = some (r : Int) ∧ (r : Int) ≠ hd ∧ h.rules[r]? = some q ∧ idxI (fun x => (r : Int) == x) tov = (i : Int)) ∨ (tov[i]? = some (-1) ∧ ∃ r : Nat, tail[i]? = some (r : Int) ∧ h.rules[r]? = some ⟨g.nons, q.right.drop cm⟩ ∧ idxI (fun x => (r : Int) == x) tail = (i : Int))
 back : ∀ (r : Nat) (z : Rule), h.rules[r]? = some z → (z.left = g.nons ∧ ∃ (i : Nat) (q : Rule), tov[i]? = some (-1) ∧ g.rules[i]? = some q ∧ tail[i]? = some (r : Int)) ∨ (z.left ≠ g.nons ∧ ((r : Int) = hd ∨ ∃ (i : Nat) (q : Rule), g.rules[i]? = some q ∧ tov[i]? = some (r : Int)))
 old : ∀ q ∈ g.rules, q.left < g.nons ∧ ∀ s ∈ q.right, s.term = true ∨ s.n < g.nons
theorem ftL_map (tov tail : List Int) (cm : Nat) (hd : Int) : ∀ ks, ftL tov tail cm hd ks = ks.map (ftT tov tail cm hd)
 | [] => rfl
 | k :: ks => by rw [ftL, ftL_map tov tail cm hd ks]; rfl
theorem fbL_map (tov tail : List Int) (cm : Nat) (hd : Int) : ∀ ks, fbL tov tail cm hd ks = ks.map (fbT tov tail cm hd)
 | [] => rfl
 | k :: ks => by rw [fbL, fbL_map tov tail cm hd ks]; rfl
theorem fbH_eq (tov tail : List Int) (cm : Nat) (hd : Int) : ∀ (j : Nat) (ks : List Tree) (x : Tree) (us : List Tree), ks.length = j → fbH tov tail cm hd j (ks ++ x :: us) = fbL tov tail cm hd (ks ++ x.kids)
 | 0, [], ⟨r, t, js⟩, us, _ => by rw [List.nil_append, fbH]; rfl
 | 0, _ :: _, _, _, h => by simp at h
 | j + 1, [], _, _, h => by simp at h
 | j + 1, k :: ks, x, us, h => by
  rw [List.cons_append, fbH, fbH_eq tov tail cm hd j ks x us (by simpa using h)]
  rfl
theorem getD_of {α : Type} {l : List α} {i : Nat} {x d : α} (h : l[i]? = some x) : l.getD i d = x := by rw [List.getD_eq_getElem?_getD, h]; rfl
section
variable {g h : Gram} {cm : Nat} {hd : Int} {tov tail : List Int}
theorem ft_vts (H : FacOk g h cm hd tov tail) : ∀ (ks : List Tree) (ss : List Sym), (∀ k ∈ ks, ∀ s, vt g k s → (s.term = true ∨ s.n < g.nons) → vt h (ftT tov tail cm hd k) s ∧ fbT tov tail cm hd (ftT tov tail cm hd k) = k ∧ yieldT (ftT tov tail cm hd k) = yieldT k ∧ nodesT (ftT tov tail cm hd k) ≤ 2 * nodesT k) →
  (∀ s ∈ ss, s.term = true ∨ s.n < g.nons) → vts g ks ss → vts h (ftL tov tail cm hd ks) ss ∧ fbL tov tail cm hd (ftL tov tail cm hd ks) = ks ∧ yields (ftL tov tail cm hd ks) = yields ks ∧ nodesL (ftL tov tail cm hd ks) ≤ 2 * nodesL ks
 | [], [], _, _, _ => by simp [ftL, fbL, vts, yields, nodesL]
 | [], _ :: _, _, _, h => by simp [vts] at h
 | _ :: _, [], _, _, h => by simp [vts] at h
 | k :: ks, s :: ss, hi, ho, hv => by
  simp only [vts] at hv
  obtain ⟨a1, a2, a3, a4⟩ := hi k (by simp) s hv.1 (ho s (by simp))
  obtain ⟨b1, b2, b3, b4⟩ := ft_vts H ks ss (fun x hx => hi x (by simp [hx])) (fun x hx => ho x (by simp [hx])) hv.2
  simp only [ftL, fbL, vts, yields, nodesL, a2, a3, b2, b3]
  exact ⟨⟨a1, b1⟩, trivial, trivial, by omega⟩
theorem ft_law (H : FacOk g h cm hd tov tail) : ∀ (N : Nat) (t : Tree), nodesT t ≤ N → ∀ s, vt g t s → (s.term = true ∨ s.n < g.nons) → vt h (ftT tov tail cm hd t) s ∧ fbT tov tail cm hd (ftT tov tail cm hd t) = t ∧ yieldT (ftT tov tail cm hd t) = yieldT t ∧ nodesT (ftT tov tail cm hd t) ≤ 2 * nodesT t
 | 0, ⟨r, t, ks⟩, hN, s, _, _ => by rw [nodesT] at hN; omega
 | N + 1, t, hN, s, hv, hs => by
  by_cases hst : s.term = true
  ·have e := vtTermB hv hst
   subst e
   rw [ftT, if_pos (by omega), fbT, if_pos (by omega)]
   exact ⟨vtLeafB hst, rfl, rfl, by omega⟩
  ·obtain ⟨st, l⟩ := s
   have e : st = false := by simpa using hst
   subst e
   obtain ⟨i, q, ks, rfl, hq, hql, hk⟩ := vtSomeB hv
   have hqm := List.mem_of_getElem? hq
   rw [nodesMkB] at hN
   obtain ⟨b1, b2, b3, b4⟩ := ft_vts H ks q.right (fun x hx => ft_law H N x (by have := nodesMemB hx; omega)) (H.old q hqm).2 hk
   rw [ftT, if_neg (by omega), Int.toNat_natCast]
   rcases H.there i q hq with ⟨r, h1, h2, h3, h4⟩ | ⟨h1, r, h2, h3, h4⟩
   ·rw [getD_of h1, if_pos (by omega), fbT, if_neg (by omega), if_neg h2, h4, b2]
    refine ⟨?_, rfl, ?_, ?_⟩
    ·rw [← hql]; exact vtMkB h3 b1
    ·rw [yieldNodeB (by omega), yieldNodeB (by omega), b3]
    ·rw [nodesMkB, nodesMkB]; omega
   ·obtain ⟨a, pre, hh, hpl, hpre⟩ := H.head
    obtain ⟨p1, p2, p3⟩ := hpre i q hq h1
    have hd0 := H.hd0
    obtain ⟨d, rfl⟩ : ∃ d : Nat, hd = (d : Int) := ⟨hd.toNat, by omega⟩
    rw [Int.toNat_natCast] at hh
    rw [getD_of h1, if_neg (by omega), getD_of h2]
    have hlen : (ftL tov tail cm (d : Int) ks).length = q.right.length := by rw [ftL_map, List.length_map]; exact vts_lenB hk
    have hcut : vts h (ftL tov tail cm (d : Int) ks) (q.right.take cm ++ q.right.drop cm) := by rw [List.take_append_drop]; exact b1
    have hc := vts_cutB hcut
    rw [List.length_take, Nat.min_eq_left p3] at hc
    obtain ⟨F, hF⟩ : ∃ F, F = ftL tov tail cm (d : Int) ks := ⟨_, rfl⟩
    rw [← hF] at b1 b2 b3 b4 hlen hc ⊢
    refine ⟨?_, ?_, ?_, ?_⟩
    ·have h5 : vt h ⟨(r : Int), 0, F.drop cm⟩ ⟨false, g.nons⟩ := vtMkB h3 hc.2
     have h6 := vtMkB hh (vts_appB (p2 ▸ hc.1) (vts_oneB h5))
     dsimp only at h6
     rw [← hql, p1]
     exact h6
    ·have hk0 : kidR cm (F.take cm ++ [(⟨(r : Int), 0, F.drop cm⟩ : Tree)]) = (r : Int) := by
      unfold kidR
      rw [List.getElem?_append_right (by rw [List.length_take]; omega), List.length_take, Nat.min_eq_left (by omega), Nat.sub_self]
      rfl
     rw [fbT, if_neg (by omega), if_pos rfl, hk0, h4, fbH_eq tov tail cm (d : Int) cm _ _ [] (by rw [List.length_take]; omega)]
     show (⟨(i : Int), 0, fbL tov tail cm (d : Int) (F.take cm ++ F.drop cm)⟩ : Tree) = _
     rw [List.take_append_drop, b2]
    ·rw [yieldNodeB (by omega), yieldNodeB (by omega), yields_append, yieldsOneB, yieldNodeB (by omega), ← yields_append, List.take_append_drop, b3]
    ·rw [nodesMkB, nodesMkB, nodesL_append, nodesOneB, nodesMkB]
     have := nodesL_append (F.take cm) (F.drop cm)
     rw [List.take_append_drop] at this
     omega
theorem fb_vts (H : FacOk g h cm hd tov tail) : ∀ (ks : List Tree) (ss : List Sym), (∀ k ∈ ks, ∀ s, vt h k s → (s.term = true ∨ s.n < g.nons) → vt g (fbT tov tail cm hd k) s ∧ ftT tov tail cm hd (fbT tov tail cm hd k) = k ∧ nodesT (fbT tov tail cm hd k) ≤ nodesT k) →
  (∀ s ∈ ss, s.term = true ∨ s.n < g.nons) → vts h ks ss → vts g (fbL tov tail cm hd ks) ss ∧ ftL tov tail cm hd (fbL tov tail cm hd ks) = ks ∧ nodesL (fbL tov tail cm hd ks) ≤ nodesL ks
 | [], [], _, _, _ => by simp [ftL, fbL, vts, nodesL]
 | [], _ :: _, _, _, h => by simp [vts] at h
 | _ :: _, [], _, _, h => by simp [vts] at h
 | k :: ks, s :: ss, hi, ho, hv => by
  simp only [vts] at hv
  obtain ⟨a1, a2, a4⟩ := hi k (by simp) s hv.1 (ho s (by simp))
  obtain ⟨b1, b2, b4⟩ := fb_vts H ks ss (fun x hx => hi x (by simp [hx])) (fun x hx => ho x (by simp [hx])) hv.2
  simp only [ftL, fbL, vts, nodesL, a2, b2]
  exact ⟨⟨a1, b1⟩, trivial, by omega⟩
theorem fb_law (H : FacOk g h cm hd tov tail) : ∀ (N : Nat) (t : Tree), nodesT t ≤ N → ∀ s, vt h t s → (s.term = true ∨ s.n < g.nons) → vt g (fbT tov tail cm hd t) s ∧ ftT tov tail cm hd (fbT tov tail cm hd t) = t ∧ nodesT (fbT tov tail cm hd t) ≤ nodesT t
 | 0, ⟨r, t, ks⟩, hN, s, _, _ => by rw [nodesT] at hN; omega
 | N + 1, t, hN, s, hv, hs => by
  have hi := fb_law H N
  by_cases hst : s.term = true
  ·have e := vtTermB hv hst
   subst e
   rw [fbT, if_pos (by omega), ftT, if_pos (by omega)]
   exact ⟨vtLeafB hst, rfl, by omega⟩
  ·obtain ⟨st, l⟩ := s
   have e : st = false := by simpa using hst
   subst e
   obtain ⟨r, z, ks, rfl, hz, hzl, hk⟩ := vtSomeB hv
   rw [nodesMkB] at hN
   have hd0 := H.hd0
   have hsl : l < g.nons := by rcases hs with h | h <;> simp_all
   rw [fbT, if_neg (by omega)]
   have hcs : (r : Int) = hd ∨ ((r : Int) ≠ hd ∧ ∃ (i : Nat) (q : Rule), g.rules[i]? = some q ∧ tov[i]? = some (r : Int)) := by
    rcases H.back r z hz with ⟨h1, _⟩ | ⟨_, h1 | h1⟩
    ·omega
    ·exact .inl h1
    ·by_cases e : (r : Int) = hd
     ·exact .inl e
     ·exact .inr ⟨e, h1⟩
   rcases hcs with rfl | ⟨hne, i, q, hq, hto⟩
   ·rw [if_pos rfl]
    obtain ⟨a, pre, hh, hpl, hpre⟩ := H.head
    rw [Int.toNat_natCast, hz] at hh
    injection hh with hh
    subst hh
    dsimp only at hzl hk
    have hc := vts_cutB hk
    rw [hpl] at hc
    have hkl := vts_lenB hk
    rw [List.length_append, List.length_singleton, hpl] at hkl
    obtain ⟨rest, hrest⟩ : ∃ x, ks.drop cm = [x] := by
     have h1 : (ks.drop cm).length = 1 := by rw [List.length_drop]; omega
     match h2 : ks.drop cm, h1 with
     | [x], _ => exact ⟨x, rfl⟩
    have hks : ks = ks.take cm ++ [rest] := by rw [← hrest, List.take_append_drop]
    rw [hrest] at hc
    simp only [vts] at hc
    obtain ⟨r2, z2, ks2, rfl, hz2, hz2l, hk2⟩ := vtSomeB hc.2.1
    rcases H.back r2 z2 hz2 with ⟨_, i, q, h1, h2, h3⟩ | ⟨h1, _⟩
    ·have hqm := List.mem_of_getElem? h2
     obtain ⟨p1, p2, p3⟩ := hpre i q h2 h1
     rcases H.there i q h2 with ⟨r', h1', _⟩ | ⟨_, r', h5, h6, h7⟩
     ·rw [h1] at h1'; injection h1' with h1'; omega
     ·rw [h3] at h5
      injection h5 with h5
      have h5 : r2 = r' := by omega
      subst h5
      rw [hz2] at h6
      injection h6 with h6
      subst h6
      dsimp only at hk2
      have hk0 : kidR cm ks = (r2 : Int) := by
       unfold kidR
       rw [hks, List.getElem?_append_right (by rw [List.length_take]; omega), List.length_take, Nat.min_eq_left (by omega), Nat.sub_self]
       rfl
      rw [hk0, h7]
      have hH : fbH tov tail cm (r : Int) cm ks = fbL tov tail cm (r : Int) (ks.take cm ++ ks2) := by
       rw [congrArg (fbH tov tail cm (r : Int) cm) hks, fbH_eq tov tail cm (r : Int) cm _ _ [] (by rw [List.length_take]; omega)]; rfl
      rw [hH]
      have hall : vts h (ks.take cm ++ ks2) q.right := by
       have := vts_appB (p2 ▸ hc.1) hk2
       rwa [List.take_append_drop] at this
      have hnl : nodesL ks = nodesL (ks.take cm) + (1 + nodesL ks2) := by
       rw [congrArg nodesL hks, nodesL_append, nodesOneB, nodesMkB]
      obtain ⟨b1, b2, b4⟩ := fb_vts H (ks.take cm ++ ks2) q.right (fun x hx => hi x (by
       have := nodesMemB hx
       rw [nodesL_append] at this
       omega)) (H.old q hqm).2 hall
      refine ⟨?_, ?_, ?_⟩
      ·rw [← hzl, ← p1]; exact vtMkB h2 b1
      ·rw [ftT, if_neg (by omega), Int.toNat_natCast, getD_of h1, if_neg (by omega), getD_of h3, b2]
       rw [List.take_append_of_le_length (by rw [List.length_take]; omega), List.drop_append_of_le_length (by rw [List.length_take]; omega), List.take_take, Nat.min_self, List.drop_eq_nil_of_le (by rw [List.length_take]; omega), List.nil_append]
       exact congrArg _ hks.symm
      ·rw [nodesMkB, nodesMkB]
       rw [nodesL_append] at b4
       omega
    ·omega
   ·rw [if_neg hne]
    have hqm := List.mem_of_getElem? hq
    rcases H.there i q hq with ⟨r', h1, h2, h3, h4⟩ | ⟨h1, _⟩
    ·rw [hto] at h1
     injection h1 with h1
     have h1 : r = r' := by omega
     subst h1
     rw [hz] at h3
     injection h3 with h3
     subst h3
     obtain ⟨b1, b2, b4⟩ := fb_vts H ks z.right (fun x hx => hi x (by have := nodesMemB hx; omega)) (H.old z hqm).2 hk
     rw [h4]
     refine ⟨?_, ?_, ?_⟩
     ·rw [← hzl]; exact vtMkB hq b1
     ·rw [ftT, if_neg (by omega), Int.toNat_natCast, getD_of hto, if_pos (by omega), b2]
     ·rw [nodesMkB, nodesMkB]; omega
    ·rw [hto] at h1
     injection h1 with h1
     omega
end
end Go.Proofs.YtjdojogjogenkaaDoor
/- Plain: grammars whose trees answer to each other, with the same words, have as many trees of each word. No program is named here. -/
namespace Go.Proofs.YtjdojogjogenkaaDoor
set_option linter.unusedVariables false
def TreeBij (g h : Gram) (f k : Tree → Tree) : Prop :=
 (∀ t, vt g t ⟨false, g.start⟩ → vt h (f t) ⟨false, h.start⟩ ∧ k (f t) = t ∧ yieldT (f t) = yieldT t) ∧ (∀ u, vt h u ⟨false, h.start⟩ → vt g (k u) ⟨false, g.start⟩ ∧ f (k u) = u)
theorem TreeBij.refl (g : Gram) : TreeBij g g id id := ⟨fun t h => ⟨h, rfl, rfl⟩, fun u h => ⟨h, rfl⟩⟩
theorem TreeBij.trans {g h j : Gram} {f k f' k' : Tree → Tree} (a : TreeBij g h f k) (b : TreeBij h j f' k') : TreeBij g j (f' ∘ f) (k ∘ k') := by
 refine ⟨fun t ht => ?_, fun u hu => ?_⟩
 ·obtain ⟨a1, a2, a3⟩ := a.1 t ht
  obtain ⟨b1, b2, b3⟩ := b.1 _ a1
  exact ⟨b1, by simp only [Function.comp_apply]; rw [b2, a2], by simp only [Function.comp_apply]; rw [b3, a3]⟩
 ·obtain ⟨b1, b2⟩ := b.2 u hu
  obtain ⟨a1, a2⟩ := a.2 _ b1
  exact ⟨a1, by simp only [Function.comp_apply]; rw [a2, b2]⟩
theorem TreeBij.back {g h : Gram} {f k : Tree → Tree} (H : TreeBij g h f k) {u : Tree} (hu : vt h u ⟨false, h.start⟩) : yieldT (k u) = yieldT u := by
 obtain ⟨b1, b2⟩ := H.2 u hu
 obtain ⟨_, _, a3⟩ := H.1 _ b1
 rw [← a3, b2]
theorem TreeBij.count {g h : Gram} {f k : Tree → Tree} (H : TreeBij g h f k) {ws : List Int} {a b : Int} (ha : CntIs (TreesOf g ws) a) (hb : CntIs (TreesOf h ws) b) : a = b := by
 refine CntIs.bij f k (fun t ht => ?_) (fun u hu => ?_) ha hb
 ·obtain ⟨a1, a2, a3⟩ := H.1 t ht.1
  exact ⟨⟨a1, by rw [a3]; exact ht.2⟩, a2⟩
 ·obtain ⟨b1, b2⟩ := H.2 u hu.1
  exact ⟨⟨b1, by rw [H.back hu.1]; exact hu.2⟩, b2⟩
end Go.Proofs.YtjdojogjogenkaaDoor
/- A region by hand: three operations that may come up; a block of eight cells stored over. No program is named here. -/
namespace Go.Proofs.YtjdojogjogenkaaDoor
open Go.RowKit
set_option linter.unusedVariables false
section
variable {P : Program} {l : List Oper} {Q : Exit → Act → World → Prop} {md : Region.Mode} {S : World → Prop}
theorem take_thr {i j k : Nat} {o o' o'' : Oper} {rest rest' rest'' : List Oper} {fuel : Nat} {listed : Array Bool} {a : Act} {w : World} (hi : l.drop i = o :: rest) (hj : l.drop j = o' :: rest') (hk : l.drop k = o'' :: rest'') (hr : Region.ready md l.toArray listed = [i, j, k]) (hwi : Region.wanted o (yielded l.toArray a.tmps) = true) (hwj : Region.wanted o' (yielded l.toArray a.tmps) = true) (hwk : Region.wanted o'' (yielded l.toArray a.tmps) = true)
  (h1 : ∀ K' : Act → World → Prop, Shut (∀ a w, S w → (S w → wpAnyH P md l.toArray Q S fuel (listed.setIfInBounds i true) a w) → K' a w) → Oper.wp P o a w K' Q)
  (h2 : ∀ K' : Act → World → Prop, Shut (∀ a w, S w → (S w → wpAnyH P md l.toArray Q S fuel (listed.setIfInBounds j true) a w) → K' a w) → Oper.wp P o' a w K' Q)
  (h3 : ∀ K' : Act → World → Prop, Shut (∀ a w, S w → (S w → wpAnyH P md l.toArray Q S fuel (listed.setIfInBounds k true) a w) → K' a w) → Oper.wp P o'' a w K' Q) : wpAnyH P md l.toArray Q S (fuel + 1) listed a w :=
 wpAnyH_ready hr (by simp) (AllReadyH.cons (drop_get hi) (fun K hK => by rw [if_pos hwi]; exact h1 K hK) (AllReadyH.cons (drop_get hj) (fun K hK => by rw [if_pos hwj]; exact h2 K hK) (AllReadyH.cons (drop_get hk) (fun K hK => by rw [if_pos hwk]; exact h3 K hK) AllReadyH.nil)))
end
theorem set8 {w : World} {b : Nat} {t : TypeId} {a0 a1 a2 a3 a4 a5 a6 a7 : Value} (h : Blk' w b t #[a0, a1, a2, a3, a4, a5, a6, a7]) (v0 v1 v2 v3 v4 v5 v6 v7 : Value) :
  Blk' ((((((((w.setCell ⟨b, 0, none⟩ v0).setCell ⟨b, 1, none⟩ v1).setCell ⟨b, 2, none⟩ v2).setCell ⟨b, 3, none⟩ v3).setCell ⟨b, 4, none⟩ v4).setCell ⟨b, 5, none⟩ v5).setCell ⟨b, 6, none⟩ v6).setCell ⟨b, 7, none⟩ v7) b t #[v0, v1, v2, v3, v4, v5, v6, v7] ∧ Kept (fun x => x = b) w ((((((((w.setCell ⟨b, 0, none⟩ v0).setCell ⟨b, 1, none⟩ v1).setCell ⟨b, 2, none⟩ v2).setCell ⟨b, 3, none⟩ v3).setCell ⟨b, 4, none⟩ v4).setCell ⟨b, 5, none⟩ v5).setCell ⟨b, 6, none⟩ v6).setCell ⟨b, 7, none⟩ v7) := by
 have k0 : Kept (fun x => x = b) w w := Kept.refl _ _
 obtain ⟨w1, e1⟩ : ∃ q : World, q = w.setCell ⟨b, 0, none⟩ v0 := ⟨_, rfl⟩
 rw [← e1]
 have h1 : Blk' w1 b t #[v0, a1, a2, a3, a4, a5, a6, a7] := by rw [e1]; exact h.set_ 0 v0
 have k1 : Kept (fun x => x = b) w w1 := by rw [e1]; exact k0.setCell (p := ⟨b, 0, none⟩) (.inl rfl) v0
 clear e1
 obtain ⟨w2, e2⟩ : ∃ q : World, q = w1.setCell ⟨b, 1, none⟩ v1 := ⟨_, rfl⟩
 rw [← e2]
 have h2 : Blk' w2 b t #[v0, v1, a2, a3, a4, a5, a6, a7] := by rw [e2]; exact h1.set_ 1 v1
 have k2 : Kept (fun x => x = b) w w2 := by rw [e2]; exact k1.setCell (p := ⟨b, 1, none⟩) (.inl rfl) v1
 clear e2
 obtain ⟨w3, e3⟩ : ∃ q : World, q = w2.setCell ⟨b, 2, none⟩ v2 := ⟨_, rfl⟩
 rw [← e3]
 have h3 : Blk' w3 b t #[v0, v1, v2, a3, a4, a5, a6, a7] := by rw [e3]; exact h2.set_ 2 v2
 have k3 : Kept (fun x => x = b) w w3 := by rw [e3]; exact k2.setCell (p := ⟨b, 2, none⟩) (.inl rfl) v2
 clear e3
 obtain ⟨w4, e4⟩ : ∃ q : World, q = w3.setCell ⟨b, 3, none⟩ v3 := ⟨_, rfl⟩
 rw [← e4]
 have h4 : Blk' w4 b t #[v0, v1, v2, v3, a4, a5, a6, a7] := by rw [e4]; exact h3.set_ 3 v3
 have k4 : Kept (fun x => x = b) w w4 := by rw [e4]; exact k3.setCell (p := ⟨b, 3, none⟩) (.inl rfl) v3
 clear e4
 obtain ⟨w5, e5⟩ : ∃ q : World, q = w4.setCell ⟨b, 4, none⟩ v4 := ⟨_, rfl⟩
 rw [← e5]
 have h5 : Blk' w5 b t #[v0, v1, v2, v3, v4, a5, a6, a7] := by rw [e5]; exact h4.set_ 4 v4
 have k5 : Kept (fun x => x = b) w w5 := by rw [e5]; exact k4.setCell (p := ⟨b, 4, none⟩) (.inl rfl) v4
 clear e5
 obtain ⟨w6, e6⟩ : ∃ q : World, q = w5.setCell ⟨b, 5, none⟩ v5 := ⟨_, rfl⟩
 rw [← e6]
 have h6 : Blk' w6 b t #[v0, v1, v2, v3, v4, v5, a6, a7] := by rw [e6]; exact h5.set_ 5 v5
 have k6 : Kept (fun x => x = b) w w6 := by rw [e6]; exact k5.setCell (p := ⟨b, 5, none⟩) (.inl rfl) v5
 clear e6
 obtain ⟨w7, e7⟩ : ∃ q : World, q = w6.setCell ⟨b, 6, none⟩ v6 := ⟨_, rfl⟩
 rw [← e7]
 have h7 : Blk' w7 b t #[v0, v1, v2, v3, v4, v5, v6, a7] := by rw [e7]; exact h6.set_ 6 v6
 have k7 : Kept (fun x => x = b) w w7 := by rw [e7]; exact k6.setCell (p := ⟨b, 6, none⟩) (.inl rfl) v6
 clear e7
 obtain ⟨w8, e8⟩ : ∃ q : World, q = w7.setCell ⟨b, 7, none⟩ v7 := ⟨_, rfl⟩
 rw [← e8]
 have h8 : Blk' w8 b t #[v0, v1, v2, v3, v4, v5, v6, v7] := by rw [e8]; exact h7.set_ 7 v7
 have k8 : Kept (fun x => x = b) w w8 := by rw [e8]; exact k7.setCell (p := ⟨b, 7, none⟩) (.inl rfl) v7
 clear e8
 exact ⟨h8, k8⟩
theorem set4F {w : World} {b : Nat} {t : TypeId} {a0 a1 a2 a3 : Value} (h : Blk' w b t #[a0, a1, a2, a3]) (v0 v1 v2 v3 : Value) :
  Blk' ((((w.setCell ⟨b, 0, none⟩ v0).setCell ⟨b, 1, none⟩ v1).setCell ⟨b, 2, none⟩ v2).setCell ⟨b, 3, none⟩ v3) b t #[v0, v1, v2, v3] ∧ Kept (fun x => x = b) w ((((w.setCell ⟨b, 0, none⟩ v0).setCell ⟨b, 1, none⟩ v1).setCell ⟨b, 2, none⟩ v2).setCell ⟨b, 3, none⟩ v3) :=
 ⟨(((h.set_ 0 _).set_ 1 _).set_ 2 _).set_ 3 _, ((((Kept.refl (fun x => x = b) w).setCell (p := ⟨b, 0, none⟩) (.inl rfl) _).setCell (p := ⟨b, 1, none⟩) (.inl rfl) _).setCell (p := ⟨b, 2, none⟩) (.inl rfl) _).setCell (p := ⟨b, 3, none⟩) (.inl rfl) _⟩
end Go.Proofs.YtjdojogjogenkaaDoor
/- slices.SortFunc at symbols, laid for the shelf's contract. -/
namespace Go.Proofs.YtjdojogjogenkaaDoor
open Go.Shelf
def sortS_ren : Go.Shelf.Ren := ⟨fun | 6 => 123 | 15 => 150 | 14 => 149 | 28 => 170 | 29 => 171 | 20 => 162 | 21 => 163 | 22 => 164 | 23 => 165 | 24 => 166 | 25 => 167 | 26 => 168 | 27 => 169 | 46 => 186 | 47 => 187 | 48 => 188 | 49 => 189 | 50 => 190 | 57 => 196 | n => n, fun | 22 => 58 | 24 => 40 | 25 => 190 | 3 => 3 | 39 => 182 | 0 => 0 | 53 => 195 | 55 => 223 | 4 => 4 | 46 => 244 | 45 => 243 | 50 => 219 | 5 => 5 | 9 => 9 | 66 => 260 | 70 => 107 | 76 => 267 | 77 => 268 | n => n, fun | n => n⟩
theorem sortS : Go.Proofs.SlLaysF0.n6 Tryd.prog sortS_ren := {
 mixed := by kernel_rfl,
 f6 := ⟨Tryd.f123.name, by decide, Tryd.func123.trans (congrArg some (by kernel_rfl))⟩,
 f14 := ⟨Tryd.f149.name, by decide, Tryd.func149.trans (congrArg some (by kernel_rfl))⟩,
 f15 := Tryd.func150.trans (congrArg some (by kernel_rfl)),
 f20 := ⟨Tryd.f162.name, by decide, Tryd.func162.trans (congrArg some (by kernel_rfl))⟩,
 f21 := ⟨Tryd.f163.name, by decide, Tryd.func163.trans (congrArg some (by kernel_rfl))⟩,
 f22 := ⟨Tryd.f164.name, by decide, Tryd.func164.trans (congrArg some (by kernel_rfl))⟩,
 f23 := ⟨Tryd.f165.name, by decide, Tryd.func165.trans (congrArg some (by kernel_rfl))⟩,
 f24 := ⟨Tryd.f166.name, by decide, Tryd.func166.trans (congrArg some (by kernel_rfl))⟩,
 f25 := ⟨Tryd.f167.name, by decide, Tryd.func167.trans (congrArg some (by kernel_rfl))⟩,
 f26 := ⟨Tryd.f168.name, by decide, Tryd.func168.trans (congrArg some (by kernel_rfl))⟩,
 f27 := ⟨Tryd.f169.name, by decide, Tryd.func169.trans (congrArg some (by kernel_rfl))⟩,
 f28 := Tryd.func170.trans (congrArg some (by kernel_rfl)),
 f29 := Tryd.func171.trans (congrArg some (by kernel_rfl)),
 f46 := ⟨Tryd.f186.name, by decide, Tryd.func186.trans (congrArg some (by kernel_rfl))⟩,
 f47 := Tryd.func187.trans (congrArg some (by kernel_rfl)),
 f48 := Tryd.func188.trans (congrArg some (by kernel_rfl)),
 f49 := ⟨Tryd.f189.name, by decide, Tryd.func189.trans (congrArg some (by kernel_rfl))⟩,
 f50 := ⟨Tryd.f190.name, by decide, Tryd.func190.trans (congrArg some (by kernel_rfl))⟩,
 f57 := ⟨Tryd.f196.name, by decide, Tryd.func196.trans (congrArg some (by kernel_rfl))⟩,
 t0 := Tryd.underlying0,
 a0 := Tryd.isAgg0,
 z0 := Tryd.sizeOf0,
 v0 := Tryd.zeroValue0,
 t3 := Tryd.underlying3,
 a3 := Tryd.isAgg3,
 z3 := Tryd.sizeOf3,
 v3 := Tryd.zeroValue3,
 t4 := Tryd.underlying4,
 a4 := Tryd.isAgg4,
 z4 := Tryd.sizeOf4,
 v4 := Tryd.zeroValue4,
 t5 := Tryd.underlying5,
 a5 := Tryd.isAgg5,
 z5 := Tryd.sizeOf5,
 v5 := Tryd.zeroValue5,
 t9 := Tryd.underlying9,
 a9 := Tryd.isAgg9,
 z9 := Tryd.sizeOf9,
 v9 := Tryd.zeroValue9,
 t22 := Tryd.underlying58,
 a22 := Tryd.isAgg58,
 z22 := Tryd.sizeOf58,
 v22 := Tryd.zeroValue58,
 t25 := Tryd.underlying190,
 a25 := Tryd.isAgg190,
 z25 := Tryd.sizeOf190,
 v25 := Tryd.zeroValue190,
 t39 := Tryd.underlying182,
 a39 := Tryd.isAgg182,
 z39 := Tryd.sizeOf182,
 v39 := Tryd.zeroValue182,
 t45 := Tryd.underlying243,
 a45 := Tryd.isAgg243,
 z45 := Tryd.sizeOf243,
 v45 := Tryd.zeroValue243,
 t46 := Tryd.underlying244,
 a46 := Tryd.isAgg244,
 z46 := Tryd.sizeOf244,
 v46 := Tryd.zeroValue244,
 t50 := Tryd.underlying219,
 a50 := Tryd.isAgg219,
 z50 := Tryd.sizeOf219,
 v50 := Tryd.zeroValue219,
 t53 := Tryd.underlying195,
 a53 := Tryd.isAgg195,
 z53 := Tryd.sizeOf195,
 v53 := Tryd.zeroValue195,
 t55 := Tryd.underlying223,
 a55 := Tryd.isAgg223,
 z55 := Tryd.sizeOf223,
 v55 := Tryd.zeroValue223,
 t66 := Tryd.underlying260,
 a66 := Tryd.isAgg260,
 z66 := Tryd.sizeOf260,
 v66 := Tryd.zeroValue260,
 t70 := Tryd.underlying107,
 a70 := Tryd.isAgg107,
 z70 := Tryd.sizeOf107,
 v70 := Tryd.zeroValue107,
 t76 := Tryd.underlying267,
 a76 := Tryd.isAgg267,
 z76 := Tryd.sizeOf267,
 v76 := Tryd.zeroValue267,
 t77 := Tryd.underlying268,
 a77 := Tryd.isAgg268,
 z77 := Tryd.sizeOf268,
 v77 := Tryd.zeroValue268 }
end Go.Proofs.YtjdojogjogenkaaDoor
