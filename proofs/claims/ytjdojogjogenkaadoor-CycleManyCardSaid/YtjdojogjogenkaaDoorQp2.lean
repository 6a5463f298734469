/- Plain facts and definitions of this proof, of several texts joined: Short, IntCells, StabP, SortKLay, CmpL, Take, CntV, Bcells, RowBase, RowsM, RowMk, FollowP, WarP, CloP, FirstM, UsefulP, LenRankP, TrimP, LenJacP, Pair, YieldP. -/
import Derived.Test.YtjdojogjogenkaaDoorQp1
import Derived.StillTailTactics
import Derived.Laws.CopyOwn
import Derived.Deep.OwnRows
import Derived.IntWalk
import Derived.Laws.EntriesVeiled
import Derived.BigRegion
import Derived.Shelf.SlSortCmp.WholeK
import Derived.Test.YtjdojogjogenkaaDoorChecked
import Derived.Deep.RegionLaw
import Derived.Deep.LoopGhost
/- Steps of a region that draws its order, with their checks by themselves. No program is named here. -/
namespace Go.Proofs.YtjdojogjogenkaaDoor
open Go.RowKit
set_option linter.unusedVariables false

theorem sA {α : Type} {i : Nat} {a : α} {l : List α} : l.toArray.setIfInBounds i a = (l.set i a).toArray := List.setIfInBounds_toArray ..
theorem sB {α : Type} {x a : α} {l : List α} : (x :: l).set 0 a = a :: l := rfl
theorem sC {α : Type} {x a : α} {n : Nat} {l : List α} : (x :: l).set (n + 1) a = x :: l.set n a := rfl
section
variable {P : Program} {l : List Oper} {Q : Exit → Act → World → Prop} {md : Region.Mode} {S : World → Prop}
theorem tk (i : Nat) {oi : Oper} {rest : List Oper} {v : Value} {fuel : Nat} {listed : Array Bool} {a : Act} {w : World} (hi : l.drop i = oi :: rest)
    (hy : ∀ w, S w → (execOp a.eval oi).run P w = .ok (.value v) w)
    (h : wpAnyH P md l.toArray Q S fuel (listed.setIfInBounds i true) (a.put oi.dst v) w)
    (hs : Region.noSelect l.toArray = true := by kernel_rfl) (hf : Region.free md l.toArray listed i = true := by kernel_rfl) (hr : (Region.ready md l.toArray listed).contains i = true := by kernel_rfl)
    (hQ : ∀ c a w, Q (.panic c) (a.put oi.dst v) w → Q (.panic c) a w := by exact fun _ _ _ h => h) (hw : Region.wanted oi (yielded l.toArray a.tmps) = true := by rfl) (hS : S w := by assumption) : wpAnyH P md l.toArray Q S (fuel + 1) listed a w :=
  take_run hi hs hf hr hQ hw hy hS h
theorem tb (i : Nat) {oi : Oper} {rest : List Oper} {fuel : Nat} {listed : Array Bool} {a : Act} {w : World} (hi : l.drop i = oi :: rest)
    (h : wpAnyH P md l.toArray Q S fuel (listed.setIfInBounds i true) (a.put oi.dst undef) w)
    (hs : Region.noSelect l.toArray = true := by kernel_rfl) (hf : Region.free md l.toArray listed i = true := by kernel_rfl) (hr : (Region.ready md l.toArray listed).contains i = true := by kernel_rfl)
    (hQ : ∀ c a w, Q (.panic c) (a.put oi.dst undef) w → Q (.panic c) a w := by exact fun _ _ _ h => h) (hw : Region.wanted oi (yielded l.toArray a.tmps) = false := by rfl) (hS : S w := by assumption) : wpAnyH P md l.toArray Q S (fuel + 1) listed a w :=
  take_bar hi hs hf hr hQ hw hS h
end
section
variable {P : Program} {l : List Oper} {Q : Exit → Act → World → Prop} {md : Region.Mode} {S : World → Prop} {d : Nat}
theorem sk (i : Nat) {oi : Oper} {rest : List Oper} {v : Value} {fuel : Nat} {listed : Array Bool} {a : Act} {w : World} (hi : l.drop i = oi :: rest)
    (hy : ∀ w, (execOp a.eval oi).run P w = .ok (.value v) w)
    (h : wpAnyD P md l.toArray Q S d fuel (listed.setIfInBounds i true) (a.put oi.dst v) w)
    (hs : Region.noSelect l.toArray = true := by kernel_rfl) (hf : Region.free md l.toArray listed i = true := by kernel_rfl) (hr : (Region.ready md l.toArray listed).contains i = true := by kernel_rfl) (hid : (i != d) = true := by kernel_rfl)
    (hQ : ∀ c a w, Q (.panic c) (a.put oi.dst v) w → Q (.panic c) a w := by exact fun _ _ _ h => h) (hw : Region.wanted oi (yielded l.toArray a.tmps) = true := by rfl) (hS : S w := by assumption) : wpAnyD P md l.toArray Q S d (fuel + 1) listed a w :=
  st_pure hi hs hf hr hid hQ hw hy (.inl hS) h
theorem sl (i : Nat) {oi : Oper} {rest : List Oper} {v : Value} {fuel : Nat} {listed : Array Bool} {a : Act} {w : World} (hi : l.drop i = oi :: rest)
    (hy : ∀ w, S w → (execOp a.eval oi).run P w = .ok (.value v) w)
    (h : wpAnyD P md l.toArray Q S d fuel (listed.setIfInBounds i true) (a.put oi.dst v) w)
    (hs : Region.noSelect l.toArray = true := by kernel_rfl) (hf : Region.free md l.toArray listed i = true := by kernel_rfl) (hr : (Region.ready md l.toArray listed).contains i = true := by kernel_rfl) (hid : (i != d && waitsB md l.toArray d i && !listed.getD d false) = true := by kernel_rfl)
    (hQ : ∀ c a w, Q (.panic c) (a.put oi.dst v) w → Q (.panic c) a w := by exact fun _ _ _ h => h) (hw : Region.wanted oi (yielded l.toArray a.tmps) = true := by rfl) (hS : S w := by assumption) : wpAnyD P md l.toArray Q S d (fuel + 1) listed a w :=
  st_run hi hs hf hr hid hQ hw hy hS h
theorem sbar (i : Nat) {oi : Oper} {rest : List Oper} {fuel : Nat} {listed : Array Bool} {a : Act} {w : World} (hi : l.drop i = oi :: rest)
    (h : wpAnyD P md l.toArray Q S d fuel (listed.setIfInBounds i true) (a.put oi.dst undef) w)
    (hs : Region.noSelect l.toArray = true := by kernel_rfl) (hf : Region.free md l.toArray listed i = true := by kernel_rfl) (hr : (Region.ready md l.toArray listed).contains i = true := by kernel_rfl) (hid : (i != d) = true := by kernel_rfl)
    (hQ : ∀ c a w, Q (.panic c) (a.put oi.dst undef) w → Q (.panic c) a w := by exact fun _ _ _ h => h) (hw : Region.wanted oi (yielded l.toArray a.tmps) = false := by rfl) (hS : S w := by assumption) : wpAnyD P md l.toArray Q S d (fuel + 1) listed a w :=
  st_bar hi hs hf hr hid hQ hw (.inl hS) h
end
end Go.Proofs.YtjdojogjogenkaaDoor

/- Rows of numbers that are known whole; made. -/
namespace Go.Proofs.YtjdojogjogenkaaDoor
open Go.RowKit
set_option linter.unusedVariables false

def icells (l : List Int) : Array Value := (l.map fun x => Value.int .i64 x).toArray
theorem icells_size (l : List Int) : (icells l).size = l.length := by simp [icells]
theorem icells_get {l : List Int} {i : Nat} {x : Int} (h : l[i]? = some x) : (icells l)[i]? = some (.int .i64 x) := by simp [icells, h]
theorem icells_set (l : List Int) (i : Nat) (x : Int) : (icells l).setIfInBounds i (.int .i64 x) = icells (l.set i x) := by
  apply Array.ext'
  simp [icells, List.map_set]
theorem icells_made (n : Nat) : madeCells #[.int .i64 0] n = icells (List.replicate n 0) := by
  apply Array.ext'
  simp only [madeCells, icells, Array.toList_map, Array.toList_range, List.map_replicate]
  apply List.ext_getElem
  · simp
  · intro i h1 h2
    simp [Nat.mod_one]
theorem els_icells {w : World} {S : Nat → Prop} {g : Nat} {t : TypeId} {ms : List Int} (hb : Blk' w g t (icells ms)) (h : ∀ v ∈ ms, I64 v) (hS : S g) : Els w S ms (some ⟨g, 0, none⟩) :=
  fun _ => ⟨g, 0, rfl, hS, fun i x hi => ⟨[.int .i64 x], ⟨rfl, h x (List.mem_of_getElem? hi)⟩, fun j u hu => by
    match j, hu with
    | 0, hu =>
      simp at hu; subst hu
      have e : 0 + i * Dat.size Int + 0 = i := by show 0 + i * 1 + 0 = i; omega
      rw [e, hb.cell]
      exact icells_get hi⟩⟩
theorem mkInts (n : Nat) (hn : n ≤ 1000000) (W : World) : (Instr.makeSlice 33 (.int .i64 (n : Int)) (.int .i64 (n : Int))).run Tryd.prog W = .ok (.slice (some ⟨W.heap.size, 0, none⟩) n n) (W.alloc (.cells (icells (List.replicate n 0)) 3)) := by
  rw [← icells_made]
  exact run_make_row' (P := Tryd.prog) 33 3 (.int .i64 0) 8 Tryd.underlying33 infoInt rfl .i64 .i64 n (by omega) (by omega) W

end Go.Proofs.YtjdojogjogenkaaDoor

/- A row of packs (a rule and a slice of kids each) at the head of a block: its elements read, two changed. -/
namespace Go.Proofs.YtjdojogjogenkaaDoor
open Go.RowKit
set_option linter.unusedVariables false

structure PkV where
  r : Int
  a : Option Addr
  n : Nat
  c : Nat
def PkV.v (p : PkV) : Value := .agg #[.int .i64 p.r, .slice p.a p.n p.c]
/-- A row of packs at the head of a block. -/
def RowF (w : World) (g : Nat) (ps : List PkV) : Prop := ∃ cur, Blk' w g 155 cur ∧ ∀ (i : Nat) (p : PkV), ps[i]? = some p → cur[i * 2]? = some (.int .i64 p.r) ∧ cur[i * 2 + 1]? = some (.slice p.a p.n p.c)
theorem RowF.cell0 {w : World} {g : Nat} {ps : List PkV} (h : RowF w g ps) {i : Nat} {p : PkV} (hx : ps[i]? = some p) : w.cell? ⟨g, i * 2, none⟩ = some (.int .i64 p.r) := by
  obtain ⟨cur, hb, hc⟩ := h
  rw [hb.cell]; exact (hc i p hx).1
theorem RowF.cell1 {w : World} {g : Nat} {ps : List PkV} (h : RowF w g ps) {i : Nat} {p : PkV} (hx : ps[i]? = some p) : w.cell? ⟨g, i * 2 + 1, none⟩ = some (.slice p.a p.n p.c) := by
  obtain ⟨cur, hb, hc⟩ := h
  rw [hb.cell]; exact (hc i p hx).2
theorem RowF.frozen {w : World} {g : Nat} {ps : List PkV} (h : RowF w g ps) (i : Nat) : w.frozen? ⟨g, i, none⟩ = false := by
  obtain ⟨cur, hb, _⟩ := h
  exact hb.frozen i
theorem RowF.lt {w : World} {g : Nat} {ps : List PkV} (h : RowF w g ps) : g < w.heap.size := by
  obtain ⟨cur, hb, _⟩ := h
  exact hb.lt
theorem RowF.set_ {w : World} {g : Nat} {ps : List PkV} (h : RowF w g ps) (i : Nat) (p : PkV) : RowF ((w.setCell ⟨g, i * 2, none⟩ (.int .i64 p.r)).setCell ⟨g, i * 2 + 1, none⟩ (.slice p.a p.n p.c)) g (ps.set i p) := by
  obtain ⟨cur, hb, hc⟩ := h
  refine ⟨_, (hb.set_ (i * 2) _).set_ (i * 2 + 1) _, fun j x hx => ?_⟩
  by_cases e : i = j
  · subst e
    have hl : i < ps.length := by have := (List.getElem?_eq_some_iff.1 hx).1; simpa using this
    rw [List.getElem?_set_self hl] at hx
    injection hx with hx
    subst hx
    have h2 := hc i ps[i] (List.getElem?_eq_getElem hl)
    have h3 := (Array.getElem?_eq_some_iff.1 h2.1).1
    have h4 := (Array.getElem?_eq_some_iff.1 h2.2).1
    refine ⟨?_, ?_⟩
    · simp [Array.getElem?_setIfInBounds, h3]
    · simp [Array.getElem?_setIfInBounds, h4]
  · rw [List.getElem?_set_ne e] at hx
    obtain ⟨h1, h2⟩ := hc j x hx
    refine ⟨?_, ?_⟩
    · rw [Array.getElem?_setIfInBounds_ne (by omega), Array.getElem?_setIfInBounds_ne (by omega)]; exact h1
    · rw [Array.getElem?_setIfInBounds_ne (by omega), Array.getElem?_setIfInBounds_ne (by omega)]; exact h2
theorem RowF.kept {w w' : World} {X : Nat → Prop} {g : Nat} {ps : List PkV} (h : RowF w g ps) (k : Kept X w w') (hx : ¬ X g) : RowF w' g ps := by
  obtain ⟨cur, hb, hc⟩ := h
  exact ⟨cur, hb.kept k hx, hc⟩
theorem RowF.below {w w' : World} {g : Nat} {ps : List PkV} (h : RowF w g ps) (k : Below w.heap.size w w') : RowF w' g ps := by
  obtain ⟨cur, hb, hc⟩ := h
  exact ⟨cur, hb.below k hb.lt, hc⟩
theorem fswap_perm {ys : List PkV} {i j : Nat} {a b : PkV} (ha : ys[i]? = some a) (hb : ys[j]? = some b) : ((ys.set i b).set j a).Perm ys := by
  obtain ⟨h1, rfl⟩ := List.getElem?_eq_some_iff.1 ha
  obtain ⟨h2, rfl⟩ := List.getElem?_eq_some_iff.1 hb
  exact List.set_set_perm h1 h2
theorem pair_kept {w w' : World} {g i : Nat} {u v : Value} (h : Kept (fun b => b = g) w w') : Kept (fun b => b = g) w ((w'.setCell ⟨g, i * 2, none⟩ u).setCell ⟨g, i * 2 + 1, none⟩ v) :=
  (h.setCell (p := ⟨g, i * 2, none⟩) (.inl rfl) _).setCell (p := ⟨g, i * 2 + 1, none⟩) (.inl rfl) _
/-- What a function that only permutes the row gives. -/
def RetPm (w : World) (g : Nat) (ps : List PkV) (e : Ending) (w' : World) : Prop := e = .returned (.tuple #[]) ∧ ∃ qs : List PkV, RowF w' g qs ∧ qs.Perm ps ∧ Kept (fun b => b = g) w w'
/-- What is wanted of the comparison. -/
def CmpOk (w0 : World) (g : Nat) (ps : List PkV) : Prop :=
  ∀ p ∈ ps, ∀ q ∈ ps, ∀ W : World, Kept (fun b => b = g) w0 W → Calls Tryd.prog 132 #[p.v, q.v] W fun e w' => (∃ k : Int, e = .returned (.int .i64 k)) ∧ Below W.heap.size W w'
theorem CmpOk.perm {w0 w1 : World} {g : Nat} {ps qs : List PkV} (h : CmpOk w0 g ps) (hp : qs.Perm ps) (hk : Kept (fun b => b = g) w0 w1) : CmpOk w1 g qs :=
  fun p hp1 q hq W hW => h p (hp.subset hp1) q (hp.subset hq) W (hk.trans hW)
theorem RetPm.refl {w : World} {g : Nat} {ps : List PkV} (h : RowF w g ps) : RetPm w g ps (.returned (.tuple #[])) w := ⟨rfl, ps, h, List.Perm.refl _, Kept.refl _ _⟩
end Go.Proofs.YtjdojogjogenkaaDoor

/- slices.SortFunc at nodes of a forest, laid for the shelf's contract. -/
namespace Go.Proofs.YtjdojogjogenkaaDoor
open Go.Shelf

def sortK_ren : Go.Shelf.Ren := ⟨fun | 6 => 129 | 15 => 150 | 14 => 155 | 28 => 170 | 29 => 171 | 20 => 172 | 21 => 173 | 22 => 174 | 23 => 175 | 24 => 176 | 25 => 177 | 26 => 178 | 27 => 179 | 46 => 191 | 47 => 187 | 48 => 188 | 49 => 192 | 50 => 193 | 57 => 197 | n => n, fun | 22 => 198 | 24 => 194 | 25 => 205 | 3 => 3 | 39 => 182 | 0 => 0 | 53 => 195 | 55 => 223 | 4 => 4 | 46 => 244 | 45 => 243 | 50 => 219 | 5 => 5 | 9 => 9 | 66 => 260 | 70 => 107 | 76 => 267 | 77 => 268 | n => n, fun | n => n⟩
theorem sortK : Go.Proofs.SlLaysF0.n6 Tryd.prog sortK_ren := {
  mixed := by kernel_rfl,
  f6 := ⟨Tryd.f129.name, by decide, Tryd.func129.trans (congrArg some (by kernel_rfl))⟩,
  f14 := ⟨Tryd.f155.name, by decide, Tryd.func155.trans (congrArg some (by kernel_rfl))⟩,
  f15 := Tryd.func150.trans (congrArg some (by kernel_rfl)),
  f20 := ⟨Tryd.f172.name, by decide, Tryd.func172.trans (congrArg some (by kernel_rfl))⟩,
  f21 := ⟨Tryd.f173.name, by decide, Tryd.func173.trans (congrArg some (by kernel_rfl))⟩,
  f22 := ⟨Tryd.f174.name, by decide, Tryd.func174.trans (congrArg some (by kernel_rfl))⟩,
  f23 := ⟨Tryd.f175.name, by decide, Tryd.func175.trans (congrArg some (by kernel_rfl))⟩,
  f24 := ⟨Tryd.f176.name, by decide, Tryd.func176.trans (congrArg some (by kernel_rfl))⟩,
  f25 := ⟨Tryd.f177.name, by decide, Tryd.func177.trans (congrArg some (by kernel_rfl))⟩,
  f26 := ⟨Tryd.f178.name, by decide, Tryd.func178.trans (congrArg some (by kernel_rfl))⟩,
  f27 := ⟨Tryd.f179.name, by decide, Tryd.func179.trans (congrArg some (by kernel_rfl))⟩,
  f28 := Tryd.func170.trans (congrArg some (by kernel_rfl)),
  f29 := Tryd.func171.trans (congrArg some (by kernel_rfl)),
  f46 := ⟨Tryd.f191.name, by decide, Tryd.func191.trans (congrArg some (by kernel_rfl))⟩,
  f47 := Tryd.func187.trans (congrArg some (by kernel_rfl)),
  f48 := Tryd.func188.trans (congrArg some (by kernel_rfl)),
  f49 := ⟨Tryd.f192.name, by decide, Tryd.func192.trans (congrArg some (by kernel_rfl))⟩,
  f50 := ⟨Tryd.f193.name, by decide, Tryd.func193.trans (congrArg some (by kernel_rfl))⟩,
  f57 := ⟨Tryd.f197.name, by decide, Tryd.func197.trans (congrArg some (by kernel_rfl))⟩,
  t0 := Tryd.underlying0,
  a0 := Tryd.isAgg0,
  z0 := Tryd.sizeOf0,
  v0 := Tryd.zeroValue0,
  t3 := Tryd.underlying3,
  a3 := Tryd.isAgg3,
  z3 := Tryd.sizeOf3,
  v3 := Tryd.zeroValue3,
  t4 := Tryd.underlying4,
  a4 := Tryd.isAgg4,
  z4 := Tryd.sizeOf4,
  v4 := Tryd.zeroValue4,
  t5 := Tryd.underlying5,
  a5 := Tryd.isAgg5,
  z5 := Tryd.sizeOf5,
  v5 := Tryd.zeroValue5,
  t9 := Tryd.underlying9,
  a9 := Tryd.isAgg9,
  z9 := Tryd.sizeOf9,
  v9 := Tryd.zeroValue9,
  t22 := Tryd.underlying198,
  a22 := Tryd.isAgg198,
  z22 := Tryd.sizeOf198,
  v22 := Tryd.zeroValue198,
  t25 := Tryd.underlying205,
  a25 := Tryd.isAgg205,
  z25 := Tryd.sizeOf205,
  v25 := Tryd.zeroValue205,
  t39 := Tryd.underlying182,
  a39 := Tryd.isAgg182,
  z39 := Tryd.sizeOf182,
  v39 := Tryd.zeroValue182,
  t45 := Tryd.underlying243,
  a45 := Tryd.isAgg243,
  z45 := Tryd.sizeOf243,
  v45 := Tryd.zeroValue243,
  t46 := Tryd.underlying244,
  a46 := Tryd.isAgg244,
  z46 := Tryd.sizeOf244,
  v46 := Tryd.zeroValue244,
  t50 := Tryd.underlying219,
  a50 := Tryd.isAgg219,
  z50 := Tryd.sizeOf219,
  v50 := Tryd.zeroValue219,
  t53 := Tryd.underlying195,
  a53 := Tryd.isAgg195,
  z53 := Tryd.sizeOf195,
  v53 := Tryd.zeroValue195,
  t55 := Tryd.underlying223,
  a55 := Tryd.isAgg223,
  z55 := Tryd.sizeOf223,
  v55 := Tryd.zeroValue223,
  t66 := Tryd.underlying260,
  a66 := Tryd.isAgg260,
  z66 := Tryd.sizeOf260,
  v66 := Tryd.zeroValue260,
  t70 := Tryd.underlying107,
  a70 := Tryd.isAgg107,
  z70 := Tryd.sizeOf107,
  v70 := Tryd.zeroValue107,
  t76 := Tryd.underlying267,
  a76 := Tryd.isAgg267,
  z76 := Tryd.sizeOf267,
  v76 := Tryd.zeroValue267,
  t77 := Tryd.underlying268,
  a77 := Tryd.isAgg268,
  z77 := Tryd.sizeOf268,
  v77 := Tryd.zeroValue268 }
end Go.Proofs.YtjdojogjogenkaaDoor

/- Plain: the order of lists of ints. No program is named here. -/
namespace Go.Proofs.YtjdojogjogenkaaDoor
open Go.RowKit
set_option linter.unusedVariables false

def cmpL : List Int → List Int → Int
  | [], [] => 0
  | [], _ :: _ => -1
  | _ :: _, [] => 1
  | x :: xs, y :: ys => if x < y then -1 else if y < x then 1 else cmpL xs ys
end Go.Proofs.YtjdojogjogenkaaDoor

/- Lists alike up to a place. -/
namespace Go.Proofs.YtjdojogjogenkaaDoor
open Go.RowKit
set_option linter.unusedVariables false

theorem take_ne {α : Type} {xs ys : List α} {k : Nat} {x y : α} (hx : xs[k]? = some x) (hy : ys[k]? = some y) (h : x ≠ y) : xs ≠ ys := by
  rintro rfl; rw [hx] at hy; exact h (by injection hy)
theorem take_eq {α : Type} {xs ys : List α} {k : Nat} {x y : α} (hx : xs[k]? = some x) (hy : ys[k]? = some y) (h : x = y) (ht : xs.take k = ys.take k) : xs.take (k + 1) = ys.take (k + 1) := by
  rw [take_snoc hx, take_snoc hy, ht, h]
theorem take_all {α : Type} {xs ys : List α} {k : Nat} (hl : xs.length = ys.length) (hk : xs.length ≤ k) (ht : xs.take k = ys.take k) : xs = ys := by
  rwa [List.take_of_length_le hk, List.take_of_length_le (by omega)] at ht
end Go.Proofs.YtjdojogjogenkaaDoor

/- The plain law of core.Count's visit: what the rows of states and counts are on the way. No program is named here. -/
namespace Go.Proofs.YtjdojogjogenkaaDoor
set_option linter.unusedVariables false

def gd (l : List Int) (u : Nat) : Int := l.getD u 0
theorem gd_set (l : List Int) (i : Nat) (x : Int) (j : Nat) (hi : i < l.length) : gd (l.set i x) j = if j = i then x else gd l j := by
  unfold gd
  rw [List.getD_eq_getElem?_getD, List.getElem?_set, List.getD_eq_getElem?_getD]
  by_cases e : i = j
  · subst e; simp [hi]
  · rw [if_neg e, if_neg (fun h => e h.symm)]
theorem gd_get {l : List Int} {i : Nat} {x : Int} (h : l[i]? = some x) : gd l i = x := by
  unfold gd
  rw [List.getD_eq_getElem?_getD, h]
  rfl
theorem gd_some {l : List Int} {i : Nat} (h : i < l.length) : l[i]? = some (gd l i) := by
  unfold gd
  rw [List.getD_eq_getElem?_getD, List.getElem?_eq_getElem h]
  rfl
def zeros (l : List Int) : Nat := (l.filter fun x => decide (x = 0)).length
theorem zeros_set : ∀ (l : List Int) (i : Nat) (x : Int), gd l i = 0 → i < l.length → x ≠ 0 → zeros (l.set i x) < zeros l
  | [], i, x, _, h, _ => by simp at h
  | a :: l, 0, x, h, _, hx => by
    have h : a = 0 := h
    subst h
    simp [zeros, hx]
  | a :: l, i + 1, x, h, hl, hx => by
    have ih := zeros_set l i x h (by simpa using hl) hx
    by_cases ha : a = 0
    · simp [zeros, ha] at ih ⊢; omega
    · simp [zeros, ha] at ih ⊢; exact ih
theorem zeros_le : ∀ (l : List Int) (i : Nat) (x : Int), x ≠ 0 → zeros (l.set i x) ≤ zeros l
  | [], i, x, _ => by simp
  | a :: l, 0, x, hx => by
    by_cases ha : a = 0
    · simp [zeros, ha, hx]
    · simp [zeros, ha, hx]
  | a :: l, i + 1, x, hx => by
    have ih := zeros_le l i x hx
    by_cases ha : a = 0
    · simp [zeros, ha] at ih ⊢; omega
    · simp [zeros, ha] at ih ⊢; exact ih
def cnF (cn : List Int) : Nat → Nat := fun k => (gd cn k).toNat
theorem prodM_congr {f f' : Nat → Nat} : ∀ (l : List Int) (x : Nat), (∀ k ∈ l, f k.toNat = f' k.toNat) → prodM f x l = prodM f' x l
  | [], x, _ => rfl
  | k :: l, x, h => by
    show prodM f (min (x * f k.toNat) lim) l = prodM f' (min (x * f' k.toNat) lim) l
    rw [h k (by simp), prodM_congr l _ (fun j hj => h j (by simp [hj]))]
theorem sumM_congr {f f' : Nat → Nat} : ∀ (J : List (List Int)) (x : Nat), (∀ l ∈ J, ∀ k ∈ l, f k.toNat = f' k.toNat) → sumM f x J = sumM f' x J
  | [], x, _ => rfl
  | l :: J, x, h => by
    show sumM f (min (x + prodM f 1 l) lim) J = sumM f' (min (x + prodM f' 1 l) lim) J
    rw [prodM_congr l 1 (h l (by simp)), sumM_congr J _ (fun j hj => h j (by simp [hj]))]
theorem prodM_snoc (f : Nat → Nat) (x : Nat) (l : List Int) (k : Int) : prodM f x (l ++ [k]) = min (prodM f x l * f k.toNat) lim := by
  unfold prodM
  rw [List.foldl_append]
  rfl
theorem sumM_snoc (f : Nat → Nat) (x : Nat) (J : List (List Int)) (l : List Int) : sumM f x (J ++ [l]) = min (sumM f x J + prodM f 1 l) lim := by
  unfold sumM
  rw [List.foldl_append]
  rfl
theorem prodM_le (f : Nat → Nat) (l : List Int) : prodM f 1 l ≤ lim := by
  have key : ∀ (l : List Int) (x : Nat), x ≤ lim → prodM f x l ≤ lim := by
    intro l
    induction l with
    | nil => intro x h; exact h
    | cons k l ih => intro x _; exact ih _ (Nat.min_le_right _ _)
  exact key l 1 (by decide)
theorem sumM_le (f : Nat → Nat) (x : Nat) (J : List (List Int)) (hx : x ≤ lim) : sumM f x J ≤ lim := by
  induction J generalizing x with
  | nil => exact hx
  | cons l J ih => exact ih _ (Nat.min_le_right _ _)

/-- The rows: 0 not yet, 1 begun, 2 done. -/
structure StI (F : List FNode) (st cn : List Int) : Prop where
  sl : st.length = F.length
  cl : cn.length = F.length
  at_ : ∀ u, u < F.length → (gd st u = 0 ∧ gd cn u = 0 ∨ gd st u = 1 ∨ gd st u = 2 ∧ Cn F u (gd cn u).toNat) ∧ 0 ≤ gd cn u ∧ gd cn u ≤ 1000000000
/-- What a visit that ends well changes. -/
structure Mv (F : List FNode) (st cn st' cn' : List Int) : Prop where
  ok : StI F st' cn'
  one : ∀ u, u < F.length → (gd st' u = 1 ↔ gd st u = 1)
  two : ∀ u, u < F.length → gd st u = 2 → gd st' u = 2 ∧ gd cn' u = gd cn u
  onec : ∀ u, u < F.length → gd st u = 1 → gd cn' u = gd cn u
  zer : zeros st' ≤ zeros st
theorem Mv.refl {F : List FNode} {st cn : List Int} (h : StI F st cn) : Mv F st cn st cn := ⟨h, fun _ _ => Iff.rfl, fun _ _ h => ⟨h, rfl⟩, fun _ _ _ => rfl, Nat.le_refl _⟩
/-- Within a visit of v: the packs J are done. -/
structure InV (F : List FNode) (st cn : List Int) (v init : Nat) (J : List (List Int)) (st' cn' : List Int) : Prop where
  ok : StI F st' cn'
  one : ∀ u, u < F.length → (gd st' u = 1 ↔ gd st u = 1 ∨ u = v)
  two : ∀ u, u < F.length → gd st u = 2 → gd st' u = 2 ∧ gd cn' u = gd cn u
  onec : ∀ u, u < F.length → gd st u = 1 → gd cn' u = gd cn u
  zer : zeros st' < zeros st
  cnv : gd cn' v = ((sumM (cnF cn') init J : Nat) : Int)
  done : ∀ l ∈ J, ∀ k ∈ l, gd st' k.toNat = 2
  v0 : gd st v = 0
  vl : v < F.length
theorem InV.begin {F : List FNode} {st cn : List Int} (h : StI F st cn) {v : Nat} (hv : v < F.length) (h0 : gd st v = 0) (t : Bool) : InV F st cn v (if t then 1 else 0) [] (st.set v 1) (if t then cn.set v 1 else cn) := by
  have hs : v < st.length := by rw [h.sl]; exact hv
  have hc : v < cn.length := by rw [h.cl]; exact hv
  have hz : gd cn v = 0 := by
    rcases (h.at_ v hv).1 with h1 | h1 | h1
    · exact h1.2
    · omega
    · omega
  have e1 : ∀ u, gd (st.set v 1) u = if u = v then 1 else gd st u := fun u => gd_set st v 1 u hs
  have e2 : ∀ u, gd (if t then cn.set v 1 else cn) u = if u = v then (if t then 1 else 0) else gd cn u := fun u => by
    cases t
    · simp only [Bool.false_eq_true, if_false]
      split
      · rename_i e; rw [e, hz]
      · rfl
    · simp only [if_true]
      exact gd_set cn v 1 u hc
  refine ⟨⟨by rw [List.length_set]; exact h.sl, by cases t <;> simp [h.cl], fun u hu => ?_⟩, fun u hu => ?_, fun u hu h2 => ?_, fun u hu h2 => ?_, zeros_set st v 1 h0 hs (by decide), ?_, by simp, h0, hv⟩
  · rw [e1, e2]
    by_cases e : u = v
    · rw [if_pos e, if_pos e]
      cases t <;> simp
    · rw [if_neg e, if_neg e]; exact h.at_ u hu
  · rw [e1]
    by_cases e : u = v
    · simp [e]
    · simp [e]
  · rw [e1, e2]
    have e : u ≠ v := fun e => by rw [e, h0] at h2; cases h2
    rw [if_neg e, if_neg e]; exact ⟨h2, rfl⟩
  · rw [e2]
    have e : u ≠ v := fun e => by rw [e, h0] at h2; cases h2
    rw [if_neg e]
  · rw [e2, if_pos rfl]
    cases t <;> rfl
/-- A kid has been visited. -/
theorem InV.kid {F : List FNode} {st cn st1 cn1 st2 cn2 : List Int} {v init : Nat} {J : List (List Int)} (h : InV F st cn v init J st1 cn1) (hk : ∀ l ∈ J, ∀ k ∈ l, k.toNat < F.length) (m : Mv F st1 cn1 st2 cn2) : InV F st cn v init J st2 cn2 := by
  refine ⟨m.ok, fun u hu => (m.one u hu).trans (h.one u hu), fun u hu h2 => ?_, fun u hu h1 => ?_, Nat.lt_of_le_of_lt m.zer h.zer, ?_, fun l hl k hkl => ?_, h.v0, h.vl⟩
  · obtain ⟨a, b⟩ := h.two u hu h2
    obtain ⟨c, d⟩ := m.two u hu a
    exact ⟨c, d.trans b⟩
  · rw [m.onec u hu ((h.one u hu).2 (.inl h1))]; exact h.onec u hu h1
  · rw [m.onec v h.vl ((h.one v h.vl).2 (.inr rfl)), h.cnv]
    rw [sumM_congr J init (fun l hl k hkl => ?_)]
    unfold cnF
    rw [(m.two k.toNat (hk l hl k hkl) (h.done l hl k hkl)).2]
  · exact (m.two k.toNat (hk l hl k hkl) (h.done l hl k hkl)).1
/-- A pack is done. -/
theorem InV.pack {F : List FNode} {st cn st1 cn1 : List Int} {v init : Nat} {J : List (List Int)} (h : InV F st cn v init J st1 cn1) (hk : ∀ l ∈ J, ∀ k ∈ l, k.toNat < F.length) (l : List Int) (hl : ∀ k ∈ l, k.toNat < F.length ∧ gd st1 k.toNat = 2) (x : Int) (hx : x = ((min (sumM (cnF cn1) init J + prodM (cnF cn1) 1 l) lim : Nat) : Int)) : InV F st cn v init (J ++ [l]) st1 (cn1.set v x) := by
  have hc : v < cn1.length := by rw [h.ok.cl]; exact h.vl
  have e2 : ∀ u, gd (cn1.set v x) u = if u = v then x else gd cn1 u := fun u => gd_set cn1 v x u hc
  have hv1 : gd st1 v = 1 := (h.one v h.vl).2 (.inr rfl)
  have hne : ∀ u, gd st1 u = 2 → u ≠ v := fun u h2 e => by rw [e, hv1] at h2; cases h2
  have hcong : ∀ k : Int, gd st1 k.toNat = 2 → cnF (cn1.set v x) k.toNat = cnF cn1 k.toNat := fun k h2 => by
    unfold cnF
    rw [e2, if_neg (hne _ h2)]
  refine ⟨⟨h.ok.sl, by rw [List.length_set]; exact h.ok.cl, fun u hu => ?_⟩, h.one, fun u hu h2 => ?_, fun u hu h1 => ?_, h.zer, ?_, fun l' hl' k hkl => ?_, h.v0, h.vl⟩
  · rw [e2]
    by_cases e : u = v
    · rw [if_pos e]
      refine ⟨.inr (.inl (by rw [e]; exact hv1)), by rw [hx]; omega, by rw [hx]; have : min (sumM (cnF cn1) init J + prodM (cnF cn1) 1 l) lim ≤ lim := Nat.min_le_right _ _; have e3 : lim = 1000000000 := rfl; omega⟩
    · rw [if_neg e]; exact h.ok.at_ u hu
  · obtain ⟨a, b⟩ := h.two u hu h2
    rw [e2, if_neg (hne u a)]
    exact ⟨a, b⟩
  · have e : u ≠ v := fun e => by rw [e, h.v0] at h1; cases h1
    rw [e2, if_neg e]; exact h.onec u hu h1
  · rw [e2, if_pos rfl, sumM_snoc, sumM_congr J init (fun l' hl' k hkl => hcong k (h.done l' hl' k hkl)), prodM_congr l 1 (fun k hkl => hcong k (hl k hkl).2)]
    exact hx
  · rcases List.mem_append.1 hl' with hl' | hl'
    · exact h.done l' hl' k hkl
    · simp at hl'; subst hl'; exact (hl k hkl).2
/-- The node is done. -/
theorem InV.end_ {F : List FNode} {st cn st1 cn1 : List Int} {v : Nat} {nd : FNode} (hnd : F[v]? = some nd) (h : InV F st cn v (if nd.sym.term then 1 else 0) (nd.packs.map (·.kids)) st1 cn1) (hk : ∀ p ∈ nd.packs, ∀ k ∈ p.kids, k.toNat < F.length) : Mv F st cn (st1.set v 2) cn1 ∧ gd (st1.set v 2) v = 2 := by
  have hs : v < st1.length := by rw [h.ok.sl]; exact h.vl
  have e1 : ∀ u, gd (st1.set v 2) u = if u = v then 2 else gd st1 u := fun u => gd_set st1 v 2 u hs
  have hcn : Cn F v (gd cn1 v).toNat := by
    have h1 := Cn.mk v nd (cnF cn1) hnd (fun p hp k hkp => by
      have h2 := h.done p.kids (List.mem_map.2 ⟨p, hp, rfl⟩) k hkp
      rcases (h.ok.at_ k.toNat (hk p hp k hkp)).1 with h3 | h3 | h3
      · omega
      · omega
      · exact h3.2)
    rw [h.cnv, Int.toNat_natCast]
    exact h1
  refine ⟨⟨⟨by rw [List.length_set]; exact h.ok.sl, h.ok.cl, fun u hu => ?_⟩, fun u hu => ?_, fun u hu h2 => ?_, h.onec, Nat.le_trans (zeros_le st1 v 2 (by decide)) (Nat.le_of_lt h.zer)⟩, by rw [e1, if_pos rfl]⟩
  · rw [e1]
    by_cases e : u = v
    · rw [if_pos e, e]; exact ⟨.inr (.inr ⟨rfl, hcn⟩), (h.ok.at_ v h.vl).2⟩
    · rw [if_neg e]; exact h.ok.at_ u hu
  · rw [e1]
    by_cases e : u = v
    · rw [if_pos e, e, h.v0]; simp
    · rw [if_neg e, h.one u hu]; simp [e]
  · rw [e1]
    have e : u ≠ v := fun e => by rw [e, h.v0] at h2; cases h2
    rw [if_neg e]
    exact h.two u hu h2
theorem StI.init (F : List FNode) : StI F (List.replicate F.length 0) (List.replicate F.length 0) := by
  have e : ∀ u, gd (List.replicate F.length 0) u = 0 := fun u => by
    unfold gd
    rw [List.getD_eq_getElem?_getD, List.getElem?_replicate]
    split <;> rfl
  exact ⟨by simp, by simp, fun u hu => by rw [e]; simp⟩
end Go.Proofs.YtjdojogjogenkaaDoor

/- Rows of bools that are known whole. No program is named here. -/
namespace Go.Proofs.YtjdojogjogenkaaDoor
open Go.RowKit
set_option linter.unusedVariables false

def bcells (l : List Bool) : Array Value := (l.map Value.bool).toArray
theorem bcells_get {l : List Bool} {i : Nat} {x : Bool} (h : l[i]? = some x) : (bcells l)[i]? = some (.bool x) := by simp [bcells, h]
theorem bcells_set (l : List Bool) (i : Nat) (x : Bool) : (bcells l).setIfInBounds i (.bool x) = bcells (l.set i x) := by
  simp [bcells, List.map_set]
theorem orRow_take : ∀ (a b : List Bool) (k : Nat) (x y : Bool), a[k]? = some x → b[k]? = some y → orRow a (b.take (k + 1)) = (orRow a (b.take k)).set k (x || y)
  | [], _, _, _, _, h, _ => by simp at h
  | _ :: _, [], _, _, _, _, h => by simp at h
  | t :: ts, f :: fs, 0, x, y, h1, h2 => by
    simp at h1 h2
    subst h1; subst h2
    cases ts <;> simp [orRow]
  | t :: ts, f :: fs, k + 1, x, y, h1, h2 => by
    have ih := orRow_take ts fs k x y (by simpa using h1) (by simpa using h2)
    simp only [List.take_succ_cons, orRow, List.set_cons_succ]
    rw [ih]
theorem orRow_nil : ∀ (a : List Bool), orRow a [] = a
  | [] => rfl
  | _ :: _ => rfl
theorem orRow_get : ∀ (a b : List Bool) (k j : Nat) (x : Bool), a[j]? = some x → k ≤ j → (orRow a (b.take k))[j]? = some x
  | [], _, _, _, _, h, _ => by simp at h
  | t :: ts, [], k, j, x, h, _ => by simpa [orRow] using h
  | t :: ts, f :: fs, 0, j, x, h, _ => by simpa [orRow] using h
  | t :: ts, f :: fs, k + 1, 0, x, h, hk => by omega
  | t :: ts, f :: fs, k + 1, j + 1, x, h, hk => by
    simp only [List.take_succ_cons, orRow, List.getElem?_cons_succ]
    exact orRow_get ts fs k j x (by simpa using h) (by omega)
theorem set_same {α : Type} {l : List α} {k : Nat} {x : α} (h : l[k]? = some x) : l.set k x = l := by
  apply List.ext_getElem?
  intro j
  rw [List.getElem?_set]
  by_cases e : k = j
  · subst e; simp [h]; exact (List.getElem?_eq_some_iff.1 h).1
  · simp [e]

theorem bcells_size (l : List Bool) : (bcells l).size = l.length := by simp [bcells]
theorem slack_get {a z : Array Value} {k : Nat} (h : k < a.size) : (a ++ z)[k]? = a[k]? := by
  rw [Array.getElem?_append]; simp [h]
theorem slack_set {a z : Array Value} {k : Nat} {v : Value} (h : k < a.size) : (a ++ z).setIfInBounds k v = a.setIfInBounds k v ++ z := by
  apply Array.ext'
  simp only [Array.toList_setIfInBounds, Array.toList_append]
  rw [List.set_append_left _ _ (by simpa using h)]
end Go.Proofs.YtjdojogjogenkaaDoor

/- Rows of bools that the call itself makes: the ground of their memory. -/
namespace Go.Proofs.YtjdojogjogenkaaDoor
open Go.RowKit
set_option linter.unusedVariables false

def rowSl (b m : Nat) : Value := .slice (some ⟨b, 0, none⟩) m m
theorem infoBool1 : (Tryd.prog.info? 4).map (fun i => (i.zero, i.size, i.bytes)) = some (some (.bool false), 1, 1) := by kernel_rfl
theorem make_eq (n : Nat) (hn : n ≤ 1000000) (W : World) : (Instr.makeSlice 53 (.int .i64 (n : Int)) (.int .i64 (n : Int))).run Tryd.prog W = .ok (.slice (some ⟨W.heap.size, 0, none⟩) n n) (W.alloc (.cells (bcells (List.replicate n false)) 4)) := by
  obtain ⟨i0, hi, hz0, hz1, hz2⟩ := info_parts infoBool1
  have h := run_makeSlice (P := Tryd.prog) W 53 4 i0 (.bool false) Tryd.underlying53 hi hz0 .i64 .i64 (n : Int) (n : Int) (by omega) (Int.le_refl _) (by rw [hz1]; simp; omega) (by rw [hz2]; omega) (by omega)
  rw [h, hz1]
  simp only [Int.toNat_natCast]
  have e : madeCells (Value.bool false).cells (n * 1) = bcells (List.replicate n false) := by
    apply Array.ext'
    show (madeCells #[Value.bool false] (n * 1)).toList = _
    rw [toList_madeCells_one]
    simp [bcells]
  rw [e]

theorem step_row1 {P : Program} {w : World} {ops : Array Oper} {o : Oper} {a : Act} {K : Act → World → Prop} {Q : Exit → Act → World → Prop} {E : Prop} {base : Nat} {α : Type} [Dat α] (hgd : o.guard = none) (s xo : Operand) {t e : TypeId} {bytes : Nat} (hT : ElemT P α t e bytes) (hsz : Dat.size α = 1)
    (ho : o.op = .call { callee := .builtin .append, args := #[s, xo], argTypes := #[t, t] })
    {v : Value} {n : Nat} {xs : List Value} (hs : a.eval s = v) (hown : w.ownsRow base e 1 v n xs) {u : Value} {g c : Nat} (hx : a.eval xo = .slice (some ⟨g, 0, none⟩) 1 c) (hat : w.cell? ⟨g, 0, none⟩ = some u) (hu : u.oneCell' = true)
    (hlen : (n + 1) * bytes ≤ 140737488355328) (hmax : n + 1 ≤ 9223372036854775807) (hbase : base ≤ w.heap.size)
    (h : ∀ v' w', w'.ownsRow base e 1 v' (n + 1) (xs ++ [u]) → w.grownBy w' v.ownBlock → (v'.ownBlock = v.ownBlock ∨ v'.ownBlock = some w.heap.size) → K (a.put o.dst v') w') :
    if Region.wanted o (yielded ops a.tmps) = true then Oper.wp P o a w K Q else E := by
  have hw : Region.wanted o (yielded ops a.tmps) = true := by simp [Region.wanted, hgd]
  rw [if_pos hw]
  obtain ⟨i, z, ht, hi, hz, hsize, hby, hzs⟩ := hT
  rw [hsz] at hsize hzs
  obtain ⟨v', w', hrun, h2, h3, _, h4⟩ := run_append_own_at (P := P) w base t o.type e i z 1 bytes ht hi hz hsize hby hzs (by decide) v n xs hown ⟨g, 0, none⟩ 1 c [u] rfl
    (by intro j u' hj; match j with
        | 0 => simp at hj; subst hj; simpa [Addr.add] using hat
        | j + 1 => simp at hj) (by intro u' hu'; simp at hu'; subst hu'; exact hu) (by simpa [maxLen] using hmax) hlen hbase
  unfold Oper.wp execOp
  simp only [ho, resolve, invoke, builtin, Sem.run_bind, Sem.run_pure, Result.andThen_ok, List.map_toArray, List.map_cons, List.map_nil, hs, hx, hrun]
  exact h v' w' h2 h3 h4

theorem row_below {w w' : World} {base : Nat} {e : TypeId} {size : Nat} {v : Value} {n : Nat} {xs : List Value} (h : w.ownsRow base e size v n xs) (hb : Below w.heap.size w w') : w'.ownsRow base e size v n xs := by
  refine h.kept (row := none) ⟨hb.os, hb.tape, hb.output, hb.size, fun k hk _ => hb.block k hk⟩ ?_
  cases hv : v.ownBlock <;> simp
theorem row_kept {X : Nat → Prop} {w w' : World} {base : Nat} {e : TypeId} {size : Nat} {v : Value} {n : Nat} {xs : List Value} (h : w.ownsRow base e size v n xs) (k : Kept X w w') (hx : ∀ b, v.ownBlock = some b → ¬ X b) : w'.ownsRow base e size v n xs := by
  refine ⟨h.1, ?_⟩
  rcases h.2 with q | ⟨g, cap, cur, q1, q2, q3, q4⟩
  · exact .inl q
  · have hg : v.ownBlock = some g := by rw [q1]; rfl
    exact .inr ⟨g, cap, cur, q1, q2, (k.block g (h.lt g hg).2 (hx g hg)).trans q3, q4⟩
theorem row_form {w : World} {base : Nat} {e : TypeId} {size : Nat} {v : Value} {n : Nat} {xs : List Value} (h : w.ownsRow base e size v n xs) : ∃ A c, v = .slice A n c := by
  rcases h.2 with ⟨q, rfl⟩ | ⟨g, cap, cur, q1, _⟩
  · exact ⟨_, _, q⟩
  · exact ⟨_, _, q1⟩
end Go.Proofs.YtjdojogjogenkaaDoor

/- A slice of rows of bools that the call itself has made: its memory; rows made one by one. -/
namespace Go.Proofs.YtjdojogjogenkaaDoor
open Go.RowKit
set_option linter.unusedVariables false

structure RowsM (w : World) (bf : Nat) (bs : List Nat) (m n cf : Nat) (f : List (List Bool)) : Prop where
  flen : f.length = n
  blen : bs.length = n
  outer : ∀ (i b : Nat), bs[i]? = some b → w.cell? ⟨bf, i, none⟩ = some (rowSl b m)
  rows : ∀ (i b : Nat) (row : List Bool), bs[i]? = some b → f[i]? = some row → Blk' w b 4 (bcells row) ∧ row.length = m
  nodup : (bf :: bs).Nodup
  bflt : bf < w.heap.size
  cap : n ≤ cf ∧ cf ≤ 9223372036854775807
section
variable {w w' : World} {bf m n cf : Nat} {bs : List Nat} {f : List (List Bool)}
theorem RowsM.kept {X : Nat → Prop} (h : RowsM w bf bs m n cf f) (k : Kept X w w') (hx : ∀ b ∈ bf :: bs, ¬ X b) : RowsM w' bf bs m n cf f :=
  ⟨h.flen, h.blen, fun i b hb => (k.cell (p := ⟨bf, i, none⟩) h.bflt (hx _ (by simp))).trans (h.outer i b hb),
    fun i b row hb hr => ⟨(h.rows i b row hb hr).1.kept k (hx _ (by simp [List.mem_of_getElem? hb])), (h.rows i b row hb hr).2⟩, h.nodup, Nat.lt_of_lt_of_le h.bflt k.size, h.cap⟩
theorem RowsM.below (h : RowsM w bf bs m n cf f) (k : Below w.heap.size w w') : RowsM w' bf bs m n cf f :=
  h.kept (Kept.of_below (fun _ => False) k) (fun _ _ h => h)
theorem RowsM.lt (h : RowsM w bf bs m n cf f) : ∀ b ∈ bf :: bs, b < w.heap.size := by
  intro b hb
  rcases List.mem_cons.1 hb with rfl | hb
  · exact h.bflt
  obtain ⟨i, hi, rfl⟩ := List.getElem_of_mem hb
  have h1 : i < f.length := by have := h.blen; have := h.flen; omega
  exact (h.rows i _ _ (List.getElem?_eq_getElem hi) (List.getElem?_eq_getElem h1)).1.lt
theorem RowsM.setRow (h : RowsM w bf bs m n cf f) {i bi : Nat} {row' : List Bool} (hi : bs[i]? = some bi) (k : Kept (fun b => b = bi) w w') (hb : Blk' w' bi 4 (bcells row')) (hl : row'.length = m) : RowsM w' bf bs m n cf (f.set i row') := by
  have hm := List.mem_of_getElem? hi
  have hnd := h.nodup
  simp only [List.nodup_cons] at hnd
  obtain ⟨n6, n7⟩ := hnd
  refine ⟨by simp [h.flen], h.blen, fun j b hb' => (k.cell (p := ⟨bf, j, none⟩) h.bflt (fun e => n6 (by have e' : bf = bi := e; exact e' ▸ hm))).trans (h.outer j b hb'), fun j b row hjb hjr => ?_, h.nodup, Nat.lt_of_lt_of_le h.bflt k.size, h.cap⟩
  rw [List.getElem?_set] at hjr
  split at hjr
  · rename_i e
    subst e
    split at hjr
    · injection hjr with hjr
      subst hjr
      rw [hi] at hjb
      injection hjb with hjb
      subst hjb
      exact ⟨hb, hl⟩
    · cases hjr
  · rename_i e
    have hr := h.rows j b row hjb hjr
    refine ⟨hr.1.kept k (fun e' => ?_), hr.2⟩
    subst e'
    obtain ⟨q1, q2⟩ := List.getElem?_eq_some_iff.1 hi
    obtain ⟨q3, q4⟩ := List.getElem?_eq_some_iff.1 hjb
    exact e ((List.getElem_inj n7).1 (q2.trans q4.symm))
end

theorem wp_row1 {P : Program} {w : World} {o : Oper} {a : Act} {K : Act → World → Prop} {Q : Exit → Act → World → Prop} {base : Nat} {α : Type} [Dat α] (s xo : Operand) {t e : TypeId} {bytes : Nat} (hT : ElemT P α t e bytes) (hsz : Dat.size α = 1)
    (ho : o.op = .call { callee := .builtin .append, args := #[s, xo], argTypes := #[t, t] })
    {v : Value} {n : Nat} {xs : List Value} (hs : a.eval s = v) (hown : w.ownsRow base e 1 v n xs) {u : Value} {g c : Nat} (hx : a.eval xo = .slice (some ⟨g, 0, none⟩) 1 c) (hat : w.cell? ⟨g, 0, none⟩ = some u) (hu : u.oneCell' = true)
    (hlen : (n + 1) * bytes ≤ 140737488355328) (hmax : n + 1 ≤ 9223372036854775807) (hbase : base ≤ w.heap.size)
    (h : ∀ v' w', w'.ownsRow base e 1 v' (n + 1) (xs ++ [u]) → w.grownBy w' v.ownBlock → (v'.ownBlock = v.ownBlock ∨ v'.ownBlock = some w.heap.size) → K (a.put o.dst v') w') : o.wp P a w K Q := by
  obtain ⟨i, z, ht, hi, hz, hsize, hby, hzs⟩ := hT
  rw [hsz] at hsize hzs
  obtain ⟨v', w', hrun, h2, h3, _, h4⟩ := run_append_own_at (P := P) w base t o.type e i z 1 bytes ht hi hz hsize hby hzs (by decide) v n xs hown ⟨g, 0, none⟩ 1 c [u] rfl
    (by intro j u' hj; match j with
        | 0 => simp at hj; subst hj; simpa [Addr.add] using hat
        | j + 1 => simp at hj) (by intro u' hu'; simp at hu'; subst hu'; exact hu) (by simpa [maxLen] using hmax) hlen hbase
  unfold Oper.wp execOp
  simp only [ho, resolve, invoke, builtin, Sem.run_bind, Sem.run_pure, Result.andThen_ok, List.map_toArray, List.map_cons, List.map_nil, hs, hx, hrun]
  exact h v' w' h2 h3 h4
theorem wpList_row1 {P : Program} {w : World} {ops : Array Oper} {rest : List Oper} {o : Oper} {a : Act} {Q : Exit → Act → World → Prop} {base : Nat} {α : Type} [Dat α] (hgd : o.guard = none) (s xo : Operand) {t e : TypeId} {bytes : Nat} (hT : ElemT P α t e bytes) (hsz : Dat.size α = 1)
    (ho : o.op = .call { callee := .builtin .append, args := #[s, xo], argTypes := #[t, t] })
    {v : Value} {n : Nat} {xs : List Value} (hs : a.eval s = v) (hown : w.ownsRow base e 1 v n xs) {u : Value} {g c : Nat} (hx : a.eval xo = .slice (some ⟨g, 0, none⟩) 1 c) (hat : w.cell? ⟨g, 0, none⟩ = some u) (hu : u.oneCell' = true)
    (hlen : (n + 1) * bytes ≤ 140737488355328) (hmax : n + 1 ≤ 9223372036854775807) (hbase : base ≤ w.heap.size)
    (h : ∀ v' w', w'.ownsRow base e 1 v' (n + 1) (xs ++ [u]) → w.grownBy w' v.ownBlock → (v'.ownBlock = v.ownBlock ∨ v'.ownBlock = some w.heap.size) → wpList P ops Q rest (a.put o.dst v') w') : wpList P ops Q (o :: rest) a w :=
  wpList_plain hgd fun _ hK => wp_row1 s xo hT hsz ho hs hown hx hat hu hlen hmax hbase fun v' w' h2 h3 h4 => hK _ _ (h v' w' h2 h3 h4)

/-- k rows of a table are made. -/
def RowL (W : World) (rows : List (List Bool)) (m : Nat) (v : Value) (k : Nat) (bs : List Nat) (wr : World) : Prop :=
  k ≤ rows.length ∧ bs.length = k ∧ Below W.heap.size W wr ∧ wr.ownsRow W.heap.size 53 1 v k (bs.map fun b => rowSl b m) ∧
    (∀ (i b : Nat) (row : List Bool), bs[i]? = some b → rows[i]? = some row → Blk' wr b 4 (bcells row) ∧ row.length = m) ∧ (∀ b ∈ bs, b < wr.heap.size ∧ W.heap.size ≤ b ∧ v.ownBlock ≠ some b) ∧ bs.Nodup
theorem RowL.start (W : World) (rows : List (List Bool)) (m : Nat) : RowL W rows m (.slice none 0 0) 0 [] W :=
  ⟨Nat.zero_le _, rfl, Below.refl _ _, World.ownsRow_nil _ _ _ _, by simp, by simp, List.nodup_nil⟩
/-- One more row: R its block, of wm; then the append. -/
theorem RowL.next {W wo wm w' : World} {rows : List (List Bool)} {m k R : Nat} {v v' : Value} {row : List Bool} {bs : List Nat} (h : RowL W rows m v k bs wo) (hr : rows[k]? = some row) (hb : Below wo.heap.size wo wm) (hR : Blk' wm R 4 (bcells row)) (hRl : row.length = m) (hR0 : wo.heap.size ≤ R)
    (hrow : w'.ownsRow W.heap.size 53 1 v' (k + 1) ((bs.map fun b => rowSl b m) ++ [rowSl R m])) (hg : wm.grownBy w' v.ownBlock) (hat : v'.ownBlock = v.ownBlock ∨ v'.ownBlock = some wm.heap.size) : RowL W rows m v' (k + 1) (bs ++ [R]) w' := by
  obtain ⟨h1, h2, h3, h4, h5, h6, h7⟩ := h
  have hV : ∀ g, v.ownBlock = some g → W.heap.size ≤ g ∧ g < wo.heap.size := h4.lt
  have hsm := hb.size
  have hRlt := hR.lt
  have hown : ∀ b, (b ∈ bs ∨ b = R) → v'.ownBlock ≠ some b := fun b hbb e => by
    rcases hat with q | q
    · rw [q] at e
      rcases hbb with hbb | hbb
      · exact (h6 b hbb).2.2 e
      · have := (hV b e).2; omega
    · rw [q] at e
      injection e with e
      rcases hbb with hbb | hbb
      · have := (h6 b hbb).1; omega
      · omega
  have hkm : Kept (fun b => v.ownBlock = some b) wo w' := (Kept.of_below _ hb).grown hg (fun k hk => .inl hk)
  refine ⟨(List.getElem?_eq_some_iff.1 hr).1, by simp [h2], h3.trans (hkm.to_below (fun b hbb => (hV b hbb).1) h3.size), by rw [List.map_append]; exact hrow, fun i b row' hi hr' => ?_, fun b hbb => ?_, ?_⟩
  · rcases Nat.lt_or_ge i bs.length with hlt | hge
    · rw [List.getElem?_append_left hlt] at hi
      exact ⟨(h5 i b row' hi hr').1.kept hkm (h6 b (List.mem_of_getElem? hi)).2.2, (h5 i b row' hi hr').2⟩
    · rw [List.getElem?_append_right hge] at hi
      have e1 : i - bs.length = 0 := by
        have := (List.getElem?_eq_some_iff.1 hi).1
        simp at this; omega
      rw [e1] at hi
      simp at hi
      subst hi
      have e2 : i = k := by omega
      subst e2
      rw [hr] at hr'
      injection hr' with hr'
      subst hr'
      exact ⟨hR.grown hg (fun e => by have := (hV _ e.symm).2; omega), hRl⟩
  · rcases List.mem_append.1 hbb with hbb | hbb
    · exact ⟨Nat.lt_of_lt_of_le (h6 b hbb).1 hkm.size, (h6 b hbb).2.1, hown b (.inl hbb)⟩
    · simp at hbb
      subst hbb
      exact ⟨Nat.lt_of_lt_of_le hRlt hg.size, by have := h3.size; omega, hown _ (.inr rfl)⟩
  · rw [List.nodup_append]
    exact ⟨h7, by simp, fun a ha b hb' e => by simp at hb'; subst hb'; have := (h6 a ha).1; omega⟩
theorem RowL.done {W wo : World} {rows : List (List Bool)} {m n : Nat} {v : Value} (hn : 1 ≤ n) (hl : rows.length = n) {bs : List Nat} (h : RowL W rows m v n bs wo) : ∃ bf cf, v = .slice (some ⟨bf, 0, none⟩) n cf ∧ RowsM wo bf bs m n cf rows ∧ Below W.heap.size W wo ∧ (∀ b ∈ bf :: bs, W.heap.size ≤ b) := by
  obtain ⟨h1, h2, h3, h4, h5, h6, h7⟩ := h
  obtain ⟨_, k2⟩ := h4
  rcases k2 with ⟨_, k3⟩ | ⟨bf, cap, cur, rfl, k4, k5, k6, k7, k8, k9⟩
  · omega
  · have hcell : ∀ (i b : Nat), bs[i]? = some b → wo.cell? ⟨bf, i, none⟩ = some (rowSl b m) := fun i b hib => by
      rw [cell_of_row wo bf i cur 53 (0, 0) k5]
      have hl : i < bs.length := (List.getElem?_eq_some_iff.1 hib).1
      have h10 : (bs.map fun b => rowSl b m)[i]? = some (rowSl b m) := by simp [hib]
      rw [← k9, List.getElem?_take] at h10
      rw [if_pos (by omega)] at h10
      rw [← Array.getElem?_toList]
      exact h10
    refine ⟨bf, cap, rfl, ⟨hl, h2, hcell, h5, ?_, (Array.getElem?_eq_some_iff.1 k5).1, k6, by simpa [maxLen] using k7⟩, h3, fun b hb => ?_⟩
    · rw [List.nodup_cons]
      exact ⟨fun hm => (h6 bf hm).2.2 rfl, h7⟩
    · rcases List.mem_cons.1 hb with rfl | hb
      · exact k4
      · exact (h6 b hb).2.1
end Go.Proofs.YtjdojogjogenkaaDoor

/- Rows of bools made one by one into a slice that was made whole: its memory. -/
namespace Go.Proofs.YtjdojogjogenkaaDoor
open Go.RowKit
set_option linter.unusedVariables false

/-- Slices of rows: the first ones made, the others nil. -/
def scells (bs : List Nat) (m n : Nat) : Array Value := ((bs.map fun b => rowSl b m) ++ List.replicate (n - bs.length) (Value.slice none 0 0)).toArray
theorem scells_get {bs : List Nat} {m n i b : Nat} (h : bs[i]? = some b) : (scells bs m n)[i]? = some (rowSl b m) := by
  have hi := (List.getElem?_eq_some_iff.1 h).1
  unfold scells
  rw [List.getElem?_toArray, List.getElem?_append_left (by simpa using hi)]
  simp [h]
theorem scells_set {bs : List Nat} {m n b : Nat} (h : bs.length < n) : (scells bs m n).setIfInBounds bs.length (rowSl b m) = scells (bs ++ [b]) m n := by
  apply Array.ext'
  unfold scells
  simp only [Array.toList_setIfInBounds]
  apply List.ext_getElem?
  intro j
  rw [List.getElem?_set]
  by_cases e : bs.length = j
  · subst e
    rw [if_pos rfl, if_pos (by simp; omega), List.getElem?_append_left (by simp)]
    simp
  · rw [if_neg e]
    rcases Nat.lt_or_ge j bs.length with hj | hj
    · rw [List.getElem?_append_left (by simpa using hj), List.getElem?_append_left (by simp; omega)]
      rw [List.map_append, List.getElem?_append_left (by simpa using hj)]
    · rw [List.getElem?_append_right (by simpa using hj), List.getElem?_append_right (by simp; omega), List.getElem?_replicate, List.getElem?_replicate]
      simp only [List.length_map, List.length_append, List.length_cons, List.length_nil]
      by_cases hn : j < n
      · rw [if_pos (by omega), if_pos (by omega)]
      · rw [if_neg (by omega), if_neg (by omega)]
theorem scells_nil {bs : List Nat} {m n i : Nat} (h : bs.length ≤ i) (hi : i < n) : (scells bs m n)[i]? = some (.slice none 0 0) := by
  unfold scells
  rw [List.getElem?_toArray, List.getElem?_append_right (by simpa using h), List.getElem?_replicate, if_pos (by simp; omega)]
theorem mkRows (n : Nat) (hn : n ≤ 1000000) (W : World) : (Instr.makeSlice 112 (.int .i64 (n : Int)) (.int .i64 (n : Int))).run Tryd.prog W = .ok (.slice (some ⟨W.heap.size, 0, none⟩) n n) (W.alloc (.cells (scells [] 0 n) 53)) := by
  obtain ⟨i0, hi, hz0, hz1, hz2⟩ := info_parts infoBools
  have h := run_makeSlice (P := Tryd.prog) W 112 53 i0 (.slice none 0 0) Tryd.underlying112 hi hz0 .i64 .i64 (n : Int) (n : Int) (by omega) (Int.le_refl _) (by rw [hz1]; simp; omega) (by rw [hz2]; omega) (by omega)
  rw [h, hz1]
  simp only [Int.toNat_natCast]
  have e : madeCells (Value.slice none 0 0).cells (n * 1) = scells [] 0 n := by
    apply Array.ext'
    show (madeCells #[Value.slice none 0 0] (n * 1)).toList = _
    rw [toList_madeCells_one]
    simp [scells]
  rw [e]
theorem scells_any (m m' n : Nat) : scells [] m n = scells [] m' n := rfl

/-- The first rows are made. -/
structure RowP (w : World) (bf n m : Nat) (bs : List Nat) (f : List (List Bool)) : Prop where
  flen : f.length = bs.length
  le : bs.length ≤ n
  outer : Blk' w bf 53 (scells bs m n)
  rows : ∀ (i b : Nat) (row : List Bool), bs[i]? = some b → f[i]? = some row → Blk' w b 4 (bcells row) ∧ row.length = m
  lt : ∀ b ∈ bs, bf < b ∧ b < w.heap.size
  nodup : bs.Nodup
theorem RowP.start {w : World} {bf n : Nat} (m : Nat) (h : Blk' w bf 53 (scells [] 0 n)) : RowP w bf n m [] [] :=
  ⟨rfl, Nat.zero_le _, h, by simp, by simp, List.nodup_nil⟩
theorem RowP.next {w w' : World} {bf n m R : Nat} {bs : List Nat} {f : List (List Bool)} {row : List Bool} (h : RowP w bf n m bs f) (hlt : bs.length < n) (k : Kept (fun b => b = bf) w w') (hO : Blk' w' bf 53 (scells (bs ++ [R]) m n)) (hR : Blk' w' R 4 (bcells row)) (hl : row.length = m) (hR0 : w.heap.size ≤ R) :
    RowP w' bf n m (bs ++ [R]) (f ++ [row]) := by
  have hbf := h.outer.lt
  refine ⟨by simp [h.flen], by simp; omega, hO, fun i b row' hi hr => ?_, fun b hbm => ?_, ?_⟩
  · rcases Nat.lt_or_ge i bs.length with hlt2 | hge
    · rw [List.getElem?_append_left hlt2] at hi
      rw [List.getElem?_append_left (by rw [h.flen]; exact hlt2)] at hr
      obtain ⟨h1, h2⟩ := h.rows i b row' hi hr
      have hm := h.lt b (List.mem_of_getElem? hi)
      exact ⟨h1.kept k (by omega), h2⟩
    · have e1 : i = bs.length := by have := (List.getElem?_eq_some_iff.1 hi).1; simp at this; omega
      subst e1
      rw [List.getElem?_append_right (Nat.le_refl _)] at hi
      rw [List.getElem?_append_right (by rw [h.flen]; exact Nat.le_refl _), h.flen] at hr
      simp at hi hr
      subst hi; subst hr
      exact ⟨hR, hl⟩
  · have hs := k.size
    rcases List.mem_append.1 hbm with hbm | hbm
    · have := h.lt b hbm
      exact ⟨this.1, by omega⟩
    · simp at hbm
      subst hbm
      exact ⟨by omega, hR.lt⟩
  · rw [List.nodup_append]
    exact ⟨h.nodup, by simp, fun a ha b hb' e => by simp at hb'; subst hb'; have := h.lt a ha; omega⟩
theorem RowP.done {w : World} {bf n m : Nat} {bs : List Nat} {f : List (List Bool)} (h : RowP w bf n m bs f) (hn : bs.length = n) (hm : n ≤ 9223372036854775807) : RowsM w bf bs m n n f :=
  ⟨by rw [h.flen, hn], hn, fun i b hib => (h.outer.cell i).trans (scells_get hib), h.rows, by
    simp only [List.nodup_cons]
    exact ⟨fun hm => by have := h.lt bf hm; omega, h.nodup⟩, h.outer.lt, Nat.le_refl _, hm⟩
end Go.Proofs.YtjdojogjogenkaaDoor

/- The plain law of FirstFollows: where the sets are closed under the rules, every node of a tree of Start has its next terminal in Follow and its first one in Predict. No program is named here. -/
namespace Go.Proofs.YtjdojogjogenkaaDoor
open Go.RowKit
set_option linter.unusedVariables false

/-- Follow sets that are closed under the rules of the nonterminals that are reached. -/
structure ClosedFol (g : Gram) (m : Nat) (e : List Bool) (f : List (List Bool)) (inn : List Bool) (fol : List (List Bool)) : Prop where
  len : fol.length = g.nons.toNat
  rows : ∀ (n : Nat) (row : List Bool), fol[n]? = some row → row.length = m + 1
  startIn : inn.getD g.start.toNat false = true
  start : (fol.getD g.start.toNat [])[m]? = some true
  reach : ∀ q ∈ g.rules, inn.getD q.left.toNat false = true → ∀ x ∈ q.right, x.term = false → inn.getD x.n.toNat false = true
  row : ∀ q ∈ g.rules, inn.getD q.left.toNat false = true → ∀ (i : Nat) (x : Sym), q.right[i]? = some x → x.term = false → ∀ j : Nat, (ofFrom e f (List.replicate m false) (q.right.drop (i + 1))).1[j]? = some true → (fol.getD x.n.toNat [])[j]? = some true
  pass : ∀ q ∈ g.rules, inn.getD q.left.toNat false = true → ∀ (i : Nat) (x : Sym), q.right[i]? = some x → x.term = false → (ofFrom e f (List.replicate m false) (q.right.drop (i + 1))).2 = true → ∀ j : Nat, (fol.getD q.left.toNat [])[j]? = some true → (fol.getD x.n.toNat [])[j]? = some true
/-- A rule's row of Predict. -/
def predRow (m : Nat) (e : List Bool) (f : List (List Bool)) (fol : List (List Bool)) (q : Rule) : List Bool :=
  if (ofFrom e f (List.replicate m false) q.right).2 then orRow ((ofFrom e f (List.replicate m false) q.right).1 ++ [false]) (fol.getD q.left.toNat []) else (ofFrom e f (List.replicate m false) q.right).1 ++ [false]
theorem predRow_len (m : Nat) (e : List Bool) (f : List (List Bool)) (fol : List (List Bool)) (q : Rule) : (predRow m e f fol q).length = m + 1 := by
  unfold predRow
  split <;> simp [orRow_len, ofFrom_len]
mutual
/-- What the law's closure tests of a node, and of those below it. -/
def goodP (g : Gram) (m : Nat) (fol pre : List (List Bool)) (w : List Int) : Tree → Nat → Prop
  | ⟨r, _, ks⟩, at_ => r < 0 ∨ ((∃ (q : Rule) (a b : List Bool) (ce ca : Int), g.rules[r.toNat]? = some q ∧ fol[q.left.toNat]? = some a ∧ pre[r.toNat]? = some b ∧ w[at_ + (yields ks).length]? = some ce ∧ w[at_]? = some ca ∧ 0 ≤ ce ∧ 0 ≤ ca ∧ a[ce.toNat]? = some true ∧ b[ca.toNat]? = some true ∧ a.length = m + 1 ∧ b.length = m + 1) ∧ goodPs g m fol pre w ks at_)
def goodPs (g : Gram) (m : Nat) (fol pre : List (List Bool)) (w : List Int) : List Tree → Nat → Prop
  | [], _ => True
  | k :: ks, at_ => goodP g m fol pre w k at_ ∧ goodPs g m fol pre w ks (at_ + (yieldT k).length)
end

mutual
theorem good_law {g : Gram} {m : Nat} {e inn : List Bool} {f fol pre : List (List Bool)} {w : List Int} (hc : ClosedS g m e f) (hok : ∀ q ∈ g.rules, ∀ s ∈ q.right, SymIn m g s) (hlo : ∀ q ∈ g.rules, 0 ≤ q.left ∧ q.left < g.nons) (hf : ClosedFol g m e f inn fol)
    (hp : ∀ (i : Nat) (q : Rule), g.rules[i]? = some q → pre[i]? = some (predRow m e f fol q)) :
    ∀ (t : Tree) (s : Sym) (at_ : Nat) (c : Int) (rest : List Int), vt g t s → (s.term = false → inn.getD s.n.toNat false = true ∧ (fol.getD s.n.toNat [])[c.toNat]? = some true) → w.drop at_ = yieldT t ++ c :: rest → 0 ≤ c → goodP g m fol pre w t at_
  | ⟨r, t, ks⟩, s, at_, c, rest, h, hs, hw, hc0 => by
    unfold goodP
    unfold vt at h
    split at h
    · exact .inl (by omega)
    · rename_i hst
      have hst : s.term = false := by simpa using hst
      obtain ⟨hin, hfc⟩ := hs hst
      obtain ⟨_, hr, q, hq, hql, hks⟩ := h
      have hm := List.mem_of_getElem? hq
      have hy : yieldT ⟨r, t, ks⟩ = yields ks := by unfold yieldT; rw [if_neg (by omega)]
      rw [hy] at hw
      have hl := hlo q hm
      have hlt : q.left.toNat < fol.length := by rw [hf.len]; omega
      obtain ⟨a, ha⟩ : ∃ a, fol[q.left.toNat]? = some a := ⟨_, List.getElem?_eq_getElem hlt⟩
      have hga : fol.getD q.left.toNat [] = a := by rw [List.getD_eq_getElem?_getD, ha]; rfl
      have hal := hf.rows _ _ ha
      rw [← hql, hga] at hfc
      have hfk := first_kids hc hok ks q.right (List.replicate m false) (by simp) (hok q hm) hks
      have hce : w[at_ + (yields ks).length]? = some c := by
        have h1 : (w.drop at_)[(yields ks).length]? = some c := by rw [hw]; simp
        simpa using h1
      refine .inr ⟨?_, goods_law hc hok hlo hf hp q hm (by rw [hql]; exact hin) 0 ks at_ c rest (by simpa using hks) (by rw [hga]; exact hfc) hw hc0⟩
      cases hyk : yields ks with
      | nil =>
        rw [hyk] at hw hce
        have hem := hfk.1 hyk
        have hca : w[at_]? = some c := by simpa using hce
        refine ⟨q, a, predRow m e f fol q, c, c, hq, ha, hp _ _ hq, by simpa using hce, hca, hc0, hc0, hfc, ?_, hal, predRow_len _ _ _ _ _⟩
        unfold predRow
        rw [if_pos hem, hga]
        exact orRow_right _ _ _ (by simp [ofFrom_len, hal]) hfc
      | cons c' w' =>
        obtain ⟨h1, h2, h3⟩ := hfk.2 _ _ hyk
        rw [hyk] at hw hce
        have hca : w[at_]? = some c' := by
          have h4 : (w.drop at_)[0]? = some c' := by rw [hw]; simp
          simpa using h4
        refine ⟨q, a, predRow m e f fol q, c, c', hq, ha, hp _ _ hq, hce, hca, hc0, h1, hfc, ?_, hal, predRow_len _ _ _ _ _⟩
        have h4 : ((ofFrom e f (List.replicate m false) q.right).1 ++ [false])[c'.toNat]? = some true := by
          rw [List.getElem?_append_left (List.getElem?_eq_some_iff.1 h3).1]; exact h3
        unfold predRow
        split
        · exact orRow_left _ _ _ h4
        · exact h4
theorem goods_law {g : Gram} {m : Nat} {e inn : List Bool} {f fol pre : List (List Bool)} {w : List Int} (hc : ClosedS g m e f) (hok : ∀ q ∈ g.rules, ∀ s ∈ q.right, SymIn m g s) (hlo : ∀ q ∈ g.rules, 0 ≤ q.left ∧ q.left < g.nons) (hf : ClosedFol g m e f inn fol)
    (hp : ∀ (i : Nat) (q : Rule), g.rules[i]? = some q → pre[i]? = some (predRow m e f fol q)) (q : Rule) (hm : q ∈ g.rules) (hin : inn.getD q.left.toNat false = true) :
    ∀ (i : Nat) (ks : List Tree) (at_ : Nat) (c : Int) (rest : List Int), vts g ks (q.right.drop i) → (fol.getD q.left.toNat [])[c.toNat]? = some true → w.drop at_ = yields ks ++ c :: rest → 0 ≤ c → goodPs g m fol pre w ks at_
  | _, [], at_, c, rest, _, _, _, _ => by simp [goodPs]
  | i, k :: ks, at_, c, rest, h, hfc, hw, hc0 => by
    unfold goodPs
    rcases Nat.lt_or_ge i q.right.length with hlt | hge
    · obtain ⟨x, hx⟩ : ∃ x, q.right[i]? = some x := ⟨_, List.getElem?_eq_getElem hlt⟩
      have hd : q.right.drop i = x :: q.right.drop (i + 1) := by
        obtain ⟨hlt, rfl⟩ := List.getElem?_eq_some_iff.1 hx
        exact List.drop_eq_getElem_cons hlt
      rw [hd] at h
      unfold vts at h
      have hw2 : w.drop at_ = yieldT k ++ (yields ks ++ c :: rest) := by rw [hw, yields, List.append_assoc]
      have hw3 : w.drop (at_ + (yieldT k).length) = yields ks ++ c :: rest := by
        rw [← List.drop_drop, hw2]; simp
      have hfk := first_kids hc hok ks (q.right.drop (i + 1)) (List.replicate m false) (by simp) (fun s hs => hok q hm s (List.mem_of_mem_drop hs)) h.2
      refine ⟨?_, goods_law hc hok hlo hf hp q hm hin (i + 1) ks _ c rest h.2 hfc hw3 hc0⟩
      cases hyk : yields ks with
      | nil =>
        rw [hyk] at hw2
        exact good_law hc hok hlo hf hp k x at_ c rest h.1 (fun hxt => ⟨hf.reach q hm hin x (List.mem_of_getElem? hx) hxt, hf.pass q hm hin i x hx hxt (hfk.1 hyk) _ hfc⟩) hw2 hc0
      | cons c' w' =>
        obtain ⟨h1, h2, h3⟩ := hfk.2 _ _ hyk
        rw [hyk] at hw2
        exact good_law hc hok hlo hf hp k x at_ c' (w' ++ c :: rest) h.1 (fun hxt => ⟨hf.reach q hm hin x (List.mem_of_getElem? hx) hxt, hf.row q hm hin i x hx hxt _ h3⟩) (by rw [hw2]; rfl) h1
    · rw [List.drop_of_length_le hge] at h
      simp [vts] at h
end
end Go.Proofs.YtjdojogjogenkaaDoor

/- The reference's closure of a relation: as many rounds as there are places reach every place that a way leads to. No program is named here. -/
namespace Go.Proofs.YtjdojogjogenkaaDoor
open Go.RowKit
set_option linter.unusedVariables false

def Gt (m : List (List Bool)) (i j : Nat) : Prop := (m.getD i [])[j]? = some true
/-- Row i takes row k, if k stands in it. -/
def warCell (m : List (List Bool)) (i k : Nat) : List (List Bool) :=
  if (m.getD i []).getD k false then m.set i (orRow (m.getD i []) (m.getD k [])) else m
def warRow (m : List (List Bool)) (i : Nat) (ks : List Nat) : List (List Bool) := ks.foldl (fun m k => warCell m i k) m
def warRound (n : Nat) (m : List (List Bool)) (is : List Nat) : List (List Bool) := is.foldl (fun m i => warRow m i (List.range n)) m
def warIter (n : Nat) : Nat → List (List Bool) → List (List Bool)
  | 0, m => m
  | k + 1, m => warRound n (warIter n k m) (List.range n)
/-- A way of steps of m. -/
inductive Wk (m : List (List Bool)) (i : Nat) : Nat → Prop where
  | refl : Wk m i i
  | snoc (k j : Nat) (h : Wk m i k) (hs : Gt m k j) : Wk m i j
theorem Wk.trans {m : List (List Bool)} {i k j : Nat} (h : Wk m i k) (g : Wk m k j) : Wk m i j := by
  induction g with
  | refl => exact h
  | snoc a b _ hs ih => exact .snoc a b ih hs
theorem Wk.one {m : List (List Bool)} {i j : Nat} (h : Gt m i j) : Wk m i j := .snoc i j .refl h

structure WarS (n : Nat) (m : List (List Bool)) : Prop where
  len : m.length = n
  row : ∀ (i : Nat) (r : List Bool), m[i]? = some r → r.length = n
theorem WarS.get {n : Nat} {m : List (List Bool)} (h : WarS n m) {i : Nat} (hi : i < n) : ∃ r, m[i]? = some r ∧ m.getD i [] = r ∧ r.length = n := by
  obtain ⟨r, hr⟩ := get_some (show i < m.length by rw [h.len]; exact hi)
  exact ⟨r, hr, by rw [List.getD_eq_getElem?_getD, hr]; rfl, h.row i r hr⟩
/-- What m0's ways allow, and what is kept. -/
structure WarI (n : Nat) (m0 m : List (List Bool)) : Prop where
  shape : WarS n m
  mono : ∀ i j : Nat, Gt m0 i j → Gt m i j
  sound : ∀ i j : Nat, Gt m i j → Wk m0 i j
theorem warSet_get {n : Nat} {m : List (List Bool)} (h : WarS n m) {i k : Nat} (hi : i < n) (hk : k < n) (a b : Nat) : Gt (m.set i (orRow (m.getD i []) (m.getD k []))) a b ↔ (Gt m a b ∨ (a = i ∧ Gt m k b)) := by
  obtain ⟨r, h1, h2, h3⟩ := h.get hi
  obtain ⟨r', k1, k2, k3⟩ := h.get hk
  unfold Gt
  rw [List.getD_eq_getElem?_getD, List.getElem?_set]
  by_cases e : i = a
  · subst e
    rw [if_pos rfl, if_pos (by rw [h.len]; exact hi), h2, k2]
    simp only [Option.getD_some]
    constructor
    · intro hx
      rcases orRow_or _ _ _ hx with hx | hx
      · exact .inl hx
      · exact .inr ⟨by first | rfl | trivial, hx⟩
    · rintro (hx | ⟨_, hx⟩)
      · exact orRow_left _ _ _ hx
      · exact orRow_right _ _ _ (by omega) hx
  · rw [if_neg e, ← List.getD_eq_getElem?_getD]
    constructor
    · exact fun hx => .inl hx
    · rintro (hx | ⟨hx, _⟩)
      · exact hx
      · exact absurd hx.symm e
theorem gt_getD {m : List (List Bool)} {i k : Nat} : (m.getD i []).getD k false = true ↔ Gt m i k := by
  unfold Gt
  rw [List.getD_eq_getElem?_getD]
  cases (m.getD i [])[k]? <;> simp
theorem WarS.set {n : Nat} {m : List (List Bool)} (h : WarS n m) {i : Nat} {r : List Bool} (hr : r.length = n) : WarS n (m.set i r) :=
  ⟨by rw [List.length_set, h.len], fun j x hx => by
    rw [List.getElem?_set] at hx
    split at hx
    · split at hx
      · simp at hx; rw [← hx]; exact hr
      · simp at hx
    · exact h.row j x hx⟩
theorem WarI.cell {n : Nat} {m0 m : List (List Bool)} (h : WarI n m0 m) {i k : Nat} (hi : i < n) (hk : k < n) : WarI n m0 (warCell m i k) ∧ (∀ a b, Gt m a b → Gt (warCell m i k) a b) ∧ (∀ b, Gt m i k → Gt m k b → Gt (warCell m i k) i b) := by
  unfold warCell
  split
  · rename_i hc
    rw [gt_getD] at hc
    obtain ⟨r, h1, h2, h3⟩ := h.shape.get hi
    refine ⟨⟨h.shape.set (by rw [orRow_len, h2]; exact h3), fun a b hab => (warSet_get h.shape hi hk a b).2 (.inl (h.mono a b hab)), fun a b hab => ?_⟩, fun a b hab => (warSet_get h.shape hi hk a b).2 (.inl hab), fun b _ hb => (warSet_get h.shape hi hk i b).2 (.inr ⟨rfl, hb⟩)⟩
    rcases (warSet_get h.shape hi hk a b).1 hab with h4 | ⟨rfl, h4⟩
    · exact h.sound a b h4
    · exact (h.sound _ _ hc).trans (h.sound _ _ h4)
  · rename_i hc
    rw [gt_getD] at hc
    exact ⟨h, fun _ _ h => h, fun b hb => absurd hb hc⟩
theorem WarI.row {n : Nat} {m0 : List (List Bool)} {i : Nat} (hi : i < n) : ∀ (ks : List Nat) (m : List (List Bool)), WarI n m0 m → (∀ k ∈ ks, k < n) → WarI n m0 (warRow m i ks) ∧ (∀ a b, Gt m a b → Gt (warRow m i ks) a b) ∧ (∀ k ∈ ks, ∀ b, Gt m i k → Gt m0 k b → Gt (warRow m i ks) i b)
  | [], m, h, _ => ⟨h, fun _ _ h => h, by simp⟩
  | k :: ks, m, h, hk => by
    obtain ⟨c1, c2, c3⟩ := h.cell hi (hk k (by simp))
    obtain ⟨i1, i2, i3⟩ := WarI.row hi ks (warCell m i k) c1 (fun x hx => hk x (by simp [hx]))
    refine ⟨i1, fun a b hab => i2 a b (c2 a b hab), fun x hx b hab hb => ?_⟩
    rcases List.mem_cons.1 hx with rfl | hx
    · exact i2 _ _ (c3 b hab (h.mono _ _ hb))
    · exact i3 x hx b (c2 _ _ hab) hb
theorem WarI.round {n : Nat} {m0 : List (List Bool)} : ∀ (is : List Nat) (m : List (List Bool)), WarI n m0 m → (∀ i ∈ is, i < n) → WarI n m0 (warRound n m is) ∧ (∀ a b, Gt m a b → Gt (warRound n m is) a b) ∧ (∀ i ∈ is, ∀ k, k < n → ∀ b, Gt m i k → Gt m0 k b → Gt (warRound n m is) i b)
  | [], m, h, _ => ⟨h, fun _ _ h => h, by simp⟩
  | i :: is, m, h, hi => by
    obtain ⟨c1, c2, c3⟩ := WarI.row (hi i (by simp)) (List.range n) m h (fun k hk => List.mem_range.1 hk)
    obtain ⟨i1, i2, i3⟩ := WarI.round is (warRow m i (List.range n)) c1 (fun x hx => hi x (by simp [hx]))
    refine ⟨i1, fun a b hab => i2 a b (c2 a b hab), fun x hx k hk b hab hb => ?_⟩
    rcases List.mem_cons.1 hx with rfl | hx
    · exact i2 _ _ (c3 k (List.mem_range.2 hk) b hab hb)
    · exact i3 x hx k hk b (c2 _ _ hab) hb
theorem true_count : ∀ (a b : List Bool), a.length = b.length → (∀ j : Nat, a[j]? = some true → b[j]? = some true) → a.count true ≤ b.count true ∧ ((∃ j : Nat, b[j]? = some true ∧ ¬ a[j]? = some true) → a.count true < b.count true)
  | [], [], _, _ => by simp
  | [], _ :: _, h, _ => by simp at h
  | _ :: _, [], h, _ => by simp at h
  | x :: a, y :: b, h, hm => by
    obtain ⟨i1, i2⟩ := true_count a b (by simpa using h) (fun j hj => by have := hm (j + 1) (by simpa using hj); simpa using this)
    have h0 := hm 0
    simp only [List.count_cons]
    cases x
    · cases y
      · refine ⟨by simpa using i1, fun ⟨j, hj, hn⟩ => ?_⟩
        cases j with
        | zero => simp at hj
        | succ j => have := i2 ⟨j, by simpa using hj, by simpa using hn⟩; simpa using this
      · refine ⟨by simp; omega, fun _ => by simp; omega⟩
    · simp at h0
      subst h0
      refine ⟨by simpa using i1, fun ⟨j, hj, hn⟩ => ?_⟩
      cases j with
      | zero => simp at hn
      | succ j => have := i2 ⟨j, by simpa using hj, by simpa using hn⟩; simpa using this
theorem war_iter {n : Nat} {m0 : List (List Bool)} (h : WarS n m0) (hd : ∀ i, i < n → Gt m0 i i) : ∀ k, WarI n m0 (warIter n k m0) ∧ ∀ i, i < n → (∀ j, Wk m0 i j → Gt (warIter n k m0) i j) ∨ k + 1 ≤ ((warIter n k m0).getD i []).count true
  | 0 => by
    refine ⟨⟨h, fun _ _ h => h, fun _ _ h => Wk.one h⟩, fun i hi => .inr ?_⟩
    have h1 : Gt m0 i i := hd i hi
    have := List.count_pos_iff.2 (List.mem_of_getElem? h1)
    show 0 + 1 ≤ (m0.getD i []).count true
    omega
  | k + 1 => by
    obtain ⟨h1, h2⟩ := war_iter h hd k
    obtain ⟨r1, r2, r3⟩ := WarI.round (List.range n) (warIter n k m0) h1 (fun i hi => List.mem_range.1 hi)
    refine ⟨r1, fun i hi => ?_⟩
    rcases h2 i hi with h3 | h3
    · exact .inl fun j hj => r2 _ _ (h3 j hj)
    · by_cases hc : ∀ a b, Gt (warIter n k m0) i a → Gt m0 a b → Gt (warIter n k m0) i b
      · refine .inl fun j hj => r2 _ _ ?_
        induction hj with
        | refl => exact h1.mono _ _ (hd i hi)
        | snoc a b _ hs ih => exact hc a b ih hs
      · refine .inr ?_
        have ⟨a, b, ha, hb, hn⟩ : ∃ a b, Gt (warIter n k m0) i a ∧ Gt m0 a b ∧ ¬ Gt (warIter n k m0) i b := by
          false_or_by_contra
          rename_i hx
          exact hc fun a b ha hb => by
            false_or_by_contra
            rename_i hy
            exact hx ⟨a, b, ha, hb, hy⟩
        have han : a < n := by
          obtain ⟨r, g1, g2, g3⟩ := h1.shape.get hi
          unfold Gt at ha
          rw [g2] at ha
          have := (List.getElem?_eq_some_iff.1 ha).1
          omega
        have hnew := r3 i (List.mem_range.2 hi) a han b ha hb
        obtain ⟨r, g1, g2, g3⟩ := h1.shape.get hi
        obtain ⟨r', k1, k2, k3⟩ := r1.shape.get hi
        have hlt := (true_count r r' (by omega) (fun j hj => by have := r2 i j (by unfold Gt; rw [g2]; exact hj); unfold Gt at this; rw [k2] at this; exact this)).2 ⟨b, by unfold Gt at hnew; rw [k2] at hnew; exact hnew, by unfold Gt at hn; rw [g2] at hn; exact hn⟩
        rw [g2] at h3
        show k + 1 + 1 ≤ ((warRound n (warIter n k m0) (List.range n)).getD i []).count true
        rw [k2]
        omega
/-- As many rounds as there are places: all ways. -/
theorem war_end {n : Nat} {m0 : List (List Bool)} (h : WarS n m0) (hd : ∀ i, i < n → Gt m0 i i) : WarS n (warIter n n m0) ∧ ∀ i, i < n → ∀ j, Gt (warIter n n m0) i j ↔ Wk m0 i j := by
  obtain ⟨h1, h2⟩ := war_iter h hd n
  refine ⟨h1.shape, fun i hi j => ⟨h1.sound i j, fun hj => ?_⟩⟩
  rcases h2 i hi with h3 | h3
  · exact h3 j hj
  · obtain ⟨r, g1, g2, g3⟩ := h1.shape.get hi
    rw [g2] at h3
    have := List.count_le_length (a := true) (l := r)
    omega
end Go.Proofs.YtjdojogjogenkaaDoor

/- The plain law of cycle.closure: three nested loops close a relation. -/
namespace Go.Proofs.YtjdojogjogenkaaDoor
open Go.RowKit
set_option linter.unusedVariables false

inductive Plus (E : Nat → Nat → Prop) (a : Nat) : Nat → Prop where
  | one (b : Nat) (h : E a b) : Plus E a b
  | snoc (b c : Nat) (h : Plus E a b) (hs : E b c) : Plus E a c
theorem Plus.trans {E : Nat → Nat → Prop} {a b c : Nat} (h : Plus E a b) (k : Plus E b c) : Plus E a c := by
  induction k with
  | one c hs => exact .snoc b c h hs
  | snoc x y _ hs ih => exact .snoc x y ih hs
/-- From a to b with only places below k between. -/
def ViaLt (E : Nat → Nat → Prop) : Nat → Nat → Nat → Prop
  | 0, a, b => E a b
  | k + 1, a, b => ViaLt E k a b ∨ (ViaLt E k a k ∧ ViaLt E k k b)
theorem ViaLt.plus {E : Nat → Nat → Prop} : ∀ (k a b : Nat), ViaLt E k a b → Plus E a b
  | 0, a, b, h => .one b h
  | k + 1, a, b, h => by
    rcases h with h | ⟨h1, h2⟩
    · exact ViaLt.plus k a b h
    · exact (ViaLt.plus k a k h1).trans (ViaLt.plus k k b h2)
theorem ViaLt.mono {E : Nat → Nat → Prop} {a b : Nat} : ∀ (k : Nat), E a b → ViaLt E k a b
  | 0, h => h
  | k + 1, h => .inl (ViaLt.mono k h)
theorem ViaLt.trans {E : Nat → Nat → Prop} : ∀ (k a b c : Nat), b < k → ViaLt E k a b → ViaLt E k b c → ViaLt E k a c
  | 0, a, b, c, hb, _, _ => by omega
  | k + 1, a, b, c, hb, h1, h2 => by
    by_cases e : b = k
    · subst e
      have g1 : ViaLt E b a b := by
        rcases h1 with h | ⟨h, _⟩ <;> exact h
      have g2 : ViaLt E b b c := by
        rcases h2 with h | ⟨_, h⟩ <;> exact h
      exact .inr ⟨g1, g2⟩
    · have hk : b < k := by omega
      rcases h1 with h1 | ⟨h1, h3⟩
      · rcases h2 with h2 | ⟨h2, h4⟩
        · exact .inl (ViaLt.trans k a b c hk h1 h2)
        · exact .inr ⟨ViaLt.trans k a b k hk h1 h2, h4⟩
      · rcases h2 with h2 | ⟨h2, h4⟩
        · exact .inr ⟨h1, ViaLt.trans k k b c hk h3 h2⟩
        · exact .inr ⟨h1, h4⟩
theorem ViaLt.of_plus {E : Nat → Nat → Prop} {n a b : Nat} (hE : ∀ a b, E a b → a < n ∧ b < n) (h : Plus E a b) : ViaLt E n a b := by
  induction h with
  | one b h => exact ViaLt.mono n h
  | snoc b c _ hs ih => exact ViaLt.trans n a b c (hE b c hs).1 ih (ViaLt.mono n hs)

theorem WarS.ofRows {w : World} {bf : Nat} {bs : List Nat} {n cf : Nat} {f : List (List Bool)} (h : RowsM w bf bs n n cf f) : WarS n f :=
  ⟨h.flen, fun i r hr => by
    have hi := (List.getElem?_eq_some_iff.1 hr).1
    obtain ⟨b, hb⟩ := get_some (show i < bs.length by rw [h.blen, ← h.flen]; exact hi)
    exact (h.rows i b r hb hr).2⟩
theorem gtSet {n : Nat} {f : List (List Bool)} (h : WarS n f) {r c : Nat} (v : Bool) (hr : r < n) (hc : c < n) (a b : Nat) : Gt (f.set r ((f.getD r []).set c v)) a b ↔ (if a = r ∧ b = c then v = true else Gt f a b) := by
  obtain ⟨w, h1, h2, h3⟩ := h.get hr
  unfold Gt
  rw [List.getD_eq_getElem?_getD, List.getElem?_set]
  by_cases e : r = a
  · subst e
    rw [if_pos rfl, if_pos (by rw [h.len]; exact hr), h2]
    simp only [Option.getD_some]
    rw [List.getElem?_set]
    by_cases e2 : c = b
    · subst e2
      rw [if_pos rfl, if_pos (by omega), if_pos (by simp)]
      simp
    · rw [if_neg e2, if_neg (fun h => e2 h.2.symm)]
  · rw [if_neg e, if_neg (fun h => e h.1.symm), ← List.getD_eq_getElem?_getD]

/-- What holds at round k, row i, place j. -/
structure CloS (E : Nat → Nat → Prop) (n k i j : Nat) (f : List (List Bool)) : Prop where
  shape : WarS n f
  snd : ∀ a b, Gt f a b → Plus E a b
  all : ∀ a b, a < n → b < n → ViaLt E k a b → Gt f a b
  now : ∀ a b, a < n → b < n → (a < i ∨ (a = i ∧ b < j)) → ViaLt E k a k → ViaLt E k k b → Gt f a b
theorem CloS.step {E : Nat → Nat → Prop} {n k i j : Nat} {f : List (List Bool)} (h : CloS E n k i j f) (hk : k < n) (hi : i < n) (hj : j < n) {x y z : Bool} (hx : (f.getD i [])[j]? = some x) (hy : (f.getD i [])[k]? = some y) (hz : (f.getD k [])[j]? = some z) :
    CloS E n k i (j + 1) (f.set i ((f.getD i []).set j (x || (y && z)))) := by
  have hg := gtSet h.shape (x || (y && z)) hi hj
  have gx : x = true ↔ Gt f i j := by unfold Gt; rw [hx]; simp
  have gy : y = true ↔ Gt f i k := by unfold Gt; rw [hy]; simp
  have gz : z = true ↔ Gt f k j := by unfold Gt; rw [hz]; simp
  have hup : ∀ a b, Gt f a b → Gt (f.set i ((f.getD i []).set j (x || (y && z)))) a b := fun a b hab => by
    rw [hg]
    split
    · rename_i e
      rw [e.1, e.2] at hab
      rw [gx.2 hab]
      rfl
    · exact hab
  refine ⟨?_, fun a b hab => ?_, fun a b ha hb hv => hup a b (h.all a b ha hb hv), fun a b ha hb hp h1 h2 => ?_⟩
  · obtain ⟨r, h1, h2, h3⟩ := h.shape.get hi
    exact h.shape.set (by rw [List.length_set, h2]; exact h3)
  · rw [hg] at hab
    split at hab
    · rename_i e
      obtain ⟨rfl, rfl⟩ := e
      rw [Bool.or_eq_true, Bool.and_eq_true] at hab
      rcases hab with hab | ⟨h1, h2⟩
      · exact h.snd _ _ (gx.1 hab)
      · exact (h.snd _ _ (gy.1 h1)).trans (h.snd _ _ (gz.1 h2))
    · exact h.snd a b hab
  · by_cases e : a = i ∧ b = j
    · rw [hg, if_pos e]
      obtain ⟨rfl, rfl⟩ := e
      rw [gy.2 (h.all _ _ ha hk h1), gz.2 (h.all _ _ hk hb h2)]
      simp
    · exact hup a b (h.now a b ha hb (by omega) h1 h2)
theorem CloS.row {E : Nat → Nat → Prop} {n k i : Nat} {f : List (List Bool)} (h : CloS E n k i n f) : CloS E n k (i + 1) 0 f :=
  ⟨h.shape, h.snd, h.all, fun a b ha hb hp => h.now a b ha hb (by omega)⟩
theorem CloS.round {E : Nat → Nat → Prop} {n k : Nat} {f : List (List Bool)} (h : CloS E n k n 0 f) : CloS E n (k + 1) 0 0 f :=
  ⟨h.shape, h.snd, fun a b ha hb hv => by
    rcases hv with hv | ⟨h1, h2⟩
    · exact h.all a b ha hb hv
    · exact h.now a b ha hb (.inl ha) h1 h2, fun a b ha hb hp => by omega⟩
theorem CloS.start {E : Nat → Nat → Prop} {n : Nat} {f : List (List Bool)} (hs : WarS n f) (h : ∀ a b, Gt f a b ↔ E a b) : CloS E n 0 0 0 f :=
  ⟨hs, fun a b hab => .one b ((h a b).1 hab), fun a b _ _ hv => (h a b).2 hv, fun a b ha hb hp => by omega⟩
theorem CloS.done {E : Nat → Nat → Prop} {n : Nat} {f : List (List Bool)} (h : CloS E n n 0 0 f) (hE : ∀ a b, E a b → a < n ∧ b < n) (a b : Nat) (ha : a < n) (hb : b < n) : Gt f a b ↔ Plus E a b :=
  ⟨h.snd a b, fun hp => h.all a b ha hb (ViaLt.of_plus hE hp)⟩
end Go.Proofs.YtjdojogjogenkaaDoor

/- What first.Make computes: rounds over the rules until nothing turns; each turn lowers the number of false places. No program is named here. -/
namespace Go.Proofs.YtjdojogjogenkaaDoor
open Go.RowKit
set_option linter.unusedVariables false

/-- One rule's step. -/
def stepR (m : Nat) (q : Rule) (s : List Bool × List (List Bool)) : List Bool × List (List Bool) :=
  (if (ofFrom s.1 s.2 (List.replicate m false) q.right).2 then s.1.set q.left.toNat true else s.1,
   s.2.set q.left.toNat (orRow (s.2.getD q.left.toNat []) (ofFrom s.1 s.2 (List.replicate m false) q.right).1))
/-- The code's step: first the row, then Empty out of what was computed before. -/
def passR (m : Nat) (rs : List Rule) (s : List Bool × List (List Bool)) : List Bool × List (List Bool) := rs.foldl (fun s q => stepR m q s) s
def iterR (m : Nat) (rs : List Rule) : Nat → List Bool × List (List Bool) → List Bool × List (List Bool)
  | 0, s => s
  | k + 1, s => passR m rs (iterR m rs k s)
def initS (m n : Nat) : List Bool × List (List Bool) := (List.replicate n false, List.replicate n (List.replicate m false))
/-- How many places are false. -/
def falses (s : List Bool × List (List Bool)) : Nat := s.1.count false + (s.2.map fun r => r.count false).sum

theorem orRow_cnt : ∀ (a b : List Bool), (orRow a b).count false ≤ a.count false ∧ (orRow a b ≠ a → (orRow a b).count false < a.count false)
  | [], _ => by simp [orRow]
  | t :: ts, [] => by simp [orRow]
  | t :: ts, f :: fs => by
    have ih := orRow_cnt ts fs
    cases t
    · cases f
      · have e : orRow (false :: ts) (false :: fs) = false :: orRow ts fs := rfl
        rw [e]
        simp only [List.count_cons_self]
        exact ⟨by omega, fun h => by have := ih.2 (fun h' => h (by rw [h'])); omega⟩
      · have e : orRow (false :: ts) (true :: fs) = true :: orRow ts fs := rfl
        have e2 : (true :: orRow ts fs).count false = (orRow ts fs).count false := by simp
        rw [e, List.count_cons_self, e2]
        exact ⟨by omega, fun _ => by omega⟩
    · have e : orRow (true :: ts) (f :: fs) = true :: orRow ts fs := by simp [orRow]
      have e2 : (true :: orRow ts fs).count false = (orRow ts fs).count false := by simp
      have e3 : (true :: ts).count false = ts.count false := by simp
      rw [e, e2, e3]
      exact ⟨ih.1, fun h => ih.2 (fun h' => h (by rw [h']))⟩
theorem sum_set : ∀ (l : List Nat) (i x y : Nat), l[i]? = some x → (l.set i y).sum + x = l.sum + y
  | [], _, _, _, h => by simp at h
  | a :: l, 0, x, y, h => by simp at h; subst h; simp; omega
  | a :: l, i + 1, x, y, h => by
    have := sum_set l i x y (by simpa using h)
    simp only [List.set_cons_succ, List.sum_cons]
    omega
theorem count_set : ∀ (l : List Bool) (i : Nat), l[i]? = some false → (l.set i true).count false + 1 = l.count false
  | [], _, h => by simp at h
  | a :: l, 0, h => by simp at h; subst h; simp
  | a :: l, i + 1, h => by
    have := count_set l i (by simpa using h)
    simp only [List.set_cons_succ, List.count_cons]
    omega
theorem set_id {α : Type} {l : List α} {k : Nat} {x : α} (h : l[k]? = some x) : l.set k x = l := by
  apply List.ext_getElem?
  intro j
  rw [List.getElem?_set]
  by_cases e : k = j
  · subst e; simp [h]; exact (List.getElem?_eq_some_iff.1 h).1
  · simp [e]
/-- A set table's shape. -/
structure Shape (m n : Nat) (s : List Bool × List (List Bool)) : Prop where
  e : s.1.length = n
  f : s.2.length = n
  rows : ∀ (i : Nat) (row : List Bool), s.2[i]? = some row → row.length = m
theorem Shape.init (m n : Nat) : Shape m n (initS m n) := ⟨by simp [initS], by simp [initS], fun i row h => by simp [initS, List.getElem?_replicate] at h; rw [← h.2]; simp⟩
theorem Shape.step {m n : Nat} {s : List Bool × List (List Bool)} (h : Shape m n s) (q : Rule) (hq : q.left.toNat < n) : Shape m n (stepR m q s) := by
  refine ⟨?_, by simp [stepR, h.f], fun i row hi => ?_⟩
  · simp only [stepR]; split <;> simp [h.e]
  · simp only [stepR, List.getElem?_set] at hi
    split at hi
    · split at hi
      · simp at hi
        subst hi
        rw [orRow_len]
        have h1 : q.left.toNat < s.2.length := by rw [h.f]; exact hq
        have h2 := h.rows _ _ (List.getElem?_eq_getElem h1)
        rw [List.getElem?_eq_getElem h1]
        exact h2
      · simp at hi
    · exact h.rows i row hi
theorem stepR_falses {m n : Nat} {s : List Bool × List (List Bool)} (h : Shape m n s) (q : Rule) (hq : q.left.toNat < n) : falses (stepR m q s) ≤ falses s ∧ (stepR m q s ≠ s → falses (stepR m q s) < falses s) := by
  obtain ⟨e, f⟩ := s
  have he : q.left.toNat < e.length := by have := h.e; simp at this; omega
  have hf : q.left.toNat < f.length := by have := h.f; simp at this; omega
  obtain ⟨ev, hev⟩ : ∃ v, e[q.left.toNat]? = some v := ⟨_, List.getElem?_eq_getElem he⟩
  obtain ⟨row, hrow⟩ : ∃ v, f[q.left.toNat]? = some v := ⟨_, List.getElem?_eq_getElem hf⟩
  have hgd : f.getD q.left.toNat [] = row := by rw [List.getD_eq_getElem?_getD, hrow]; rfl
  generalize hof : ofFrom e f (List.replicate m false) q.right = o
  have hs : stepR m q (e, f) = (if o.2 then e.set q.left.toNat true else e, f.set q.left.toNat (orRow row o.1)) := by simp only [stepR, hof, hgd]
  have hc := orRow_cnt row o.1
  have h1 := sum_set (f.map fun r => r.count false) q.left.toNat (row.count false) ((orRow row o.1).count false) (by rw [List.getElem?_map, hrow]; rfl)
  have h2 : (f.set q.left.toNat (orRow row o.1)).map (fun r => r.count false) = (f.map fun r => r.count false).set q.left.toNat ((orRow row o.1).count false) := by rw [List.map_set]
  rw [hs]
  simp only [falses, h2]
  have hrow' : orRow row o.1 = row → f.set q.left.toNat (orRow row o.1) = f := fun e => by rw [e]; exact set_id hrow
  by_cases ho : o.2 = true
  · rw [if_pos ho]
    cases ev
    · have h3 := count_set e _ hev
      exact ⟨by omega, fun _ => by omega⟩
    · rw [set_id hev]
      refine ⟨by omega, fun hne => ?_⟩
      have := hc.2 (fun e' => hne (by rw [hrow' e']))
      omega
  · rw [if_neg ho]
    refine ⟨by omega, fun hne => ?_⟩
    have := hc.2 (fun e' => hne (by rw [hrow' e']))
    omega
theorem closed_of {g : Gram} {m : Nat} {e : List Bool} {f : List (List Bool)} (hs : Shape m g.nons.toNat (e, f)) (hl : ∀ q ∈ g.rules, q.left.toNat < g.nons.toNat) (h : ∀ q ∈ g.rules, stepR m q (e, f) = (e, f)) : ClosedS g m e f := by
  refine ⟨fun n hn => ?_, fun q hq j hj => ?_, fun q hq ho => ?_⟩
  · have h1 : n < f.length := by have := hs.f; simp at this; omega
    rw [List.getD_eq_getElem?_getD, List.getElem?_eq_getElem h1]
    exact hs.rows n _ (List.getElem?_eq_getElem h1)
  · have h1 : q.left.toNat < f.length := by have := hs.f; have := hl q hq; simp at *; omega
    have h2 := congrArg (fun s => s.2[q.left.toNat]?) (h q hq)
    simp only [stepR, List.getElem?_set] at h2
    rw [if_pos trivial, if_pos h1] at h2
    rw [List.getD_eq_getElem?_getD, ← h2]
    simp only [Option.getD_some]
    refine orRow_right _ _ _ ?_ hj
    rw [ofFrom_len, List.length_replicate, List.getD_eq_getElem?_getD, List.getElem?_eq_getElem h1]
    exact hs.rows _ _ (List.getElem?_eq_getElem h1)
  · have h1 : q.left.toNat < e.length := by have := hs.e; have := hl q hq; simp at *; omega
    have h2 := congrArg (fun s => s.1) (h q hq)
    simp only [stepR] at h2
    rw [if_pos ho] at h2
    rw [← h2, List.getD_eq_getElem?_getD, List.getElem?_set, if_pos rfl, if_pos h1]
    rfl
end Go.Proofs.YtjdojogjogenkaaDoor

/- What useful.lengths and useful.reached compute: rounds over the rules until nothing turns; what a fixed point is good for. No program is named here. -/
namespace Go.Proofs.YtjdojogjogenkaaDoor
open Go.RowKit
set_option linter.unusedVariables false

/-- The length of a right side, from a sum on; -1 where a part has none. -/
def sumR (l : List Int) : Int → List Sym → Int
  | a, [] => a
  | a, s :: ss => sumR l (if s.term = true ∧ 0 ≤ a then a + 1 else if 0 ≤ a ∧ 0 ≤ l.getD s.n.toNat 0 ∧ s.term = false then a + l.getD s.n.toNat 0 else -1) ss
/-- All parts have a length. -/
def useB (l : List Int) (q : Rule) : Bool := !(q.right.any fun s => !s.term && decide (l.getD s.n.toNat 0 < 0))
def lenStep (l : List Int) (q : Rule) : List Int :=
  if 0 ≤ sumR l 0 q.right ∧ (l.getD q.left.toNat 0 < 0 ∨ sumR l 0 q.right < l.getD q.left.toNat 0) then l.set q.left.toNat (sumR l 0 q.right) else l
def lenPass (rs : List Rule) (l : List Int) : List Int := rs.foldl lenStep l
def lenIter (rs : List Rule) : Nat → List Int → List Int
  | 0, l => l
  | k + 1, l => lenPass rs (lenIter rs k l)
def lenInit (n : Nat) : List Int := List.replicate n (-1)

def pw (k : Nat) : Nat := 4 ^ k
theorem pw_mono {a b : Nat} (h : a ≤ b) : pw a ≤ pw b := Nat.pow_le_pow_right (by omega) h
theorem pw_pos (a : Nat) : 1 ≤ pw a := pw_mono (Nat.zero_le a)
theorem pw_succ (a : Nat) : pw (a + 1) = 4 * pw a := by unfold pw; rw [Nat.pow_succ]; omega
theorem pw_ten : pw 10 = 1048576 := by decide
def cntN (l : List Int) : Nat := l.countP fun x => decide (0 ≤ x)
/-- The table of lengths on the way. -/
structure LShape (n : Nat) (l : List Int) : Prop where
  len : l.length = n
  low : ∀ x ∈ l, -1 ≤ x
  high : ∀ x ∈ l, x ≤ (pw (cntN l) : Int)

theorem LShape.cnt {n : Nat} {l : List Int} (h : LShape n l) : cntN l ≤ n := by have := List.countP_le_length (p := fun x : Int => decide (0 ≤ x)) (l := l); unfold cntN; have := h.len; omega
theorem LShape.init (n : Nat) : LShape n (lenInit n) := ⟨by simp [lenInit], fun x hx => by simp [lenInit] at hx; omega, fun x hx => by simp [lenInit] at hx; have := pw_pos (cntN (lenInit n)); omega⟩
theorem LShape.bound {n : Nat} {l : List Int} (h : LShape n l) (hn : n ≤ 10) : ∀ x ∈ l, -1 ≤ x ∧ x ≤ 1048576 := fun x hx => by
  refine ⟨h.low x hx, ?_⟩
  have h1 := h.high x hx
  have h2 := pw_mono (show cntN l ≤ 10 by have := h.cnt; omega)
  have h3 := pw_ten
  omega
theorem LShape.get {n : Nat} {l : List Int} (h : LShape n l) (k : Nat) : -1 ≤ l.getD k 0 ∧ l.getD k 0 ≤ (pw (cntN l) : Int) := by
  rw [List.getD_eq_getElem?_getD]
  cases hk : l[k]? with
  | none => have := pw_pos (cntN l); simp
  | some x => exact ⟨h.low x (List.mem_of_getElem? hk), h.high x (List.mem_of_getElem? hk)⟩

theorem sumR_neg (l : List Int) : ∀ (ss : List Sym) (a : Int), a < 0 → sumR l a ss = (if ss = [] then a else -1)
  | [], a, _ => by simp [sumR]
  | s :: ss, a, h => by
    rw [sumR, if_neg (by omega), if_neg (by omega), sumR_neg l ss (-1) (by omega)]
    split <;> simp
/-- One part's share. -/
def partR (l : List Int) (s : Sym) : Int := if s.term then 1 else l.getD s.n.toNat 0
theorem sumR_cons (l : List Int) (s : Sym) (ss : List Sym) (a : Int) (ha : 0 ≤ a) : sumR l a (s :: ss) = if 0 ≤ partR l s then sumR l (a + partR l s) ss else -1 := by
  rw [sumR]
  unfold partR
  cases hs : s.term
  · simp only [Bool.false_eq_true, false_and, if_false, and_true]
    by_cases h : 0 ≤ l.getD s.n.toNat 0
    · rw [if_pos ⟨ha, h⟩, if_pos h]
    · rw [if_neg (by omega), if_neg h, sumR_neg l ss _ (by omega)]; split <;> rfl
  · simp [ha]
theorem sumR_up (l : List Int) (B : Int) (hB : 1 ≤ B) (hl : ∀ k, l.getD k 0 ≤ B) : ∀ (ss : List Sym) (a : Int), sumR l a ss ≤ (if a < 0 then 0 else a) + B * ss.length
  | [], a => by simp [sumR]; split <;> omega
  | s :: ss, a => by
    have e : B * ((s :: ss).length : Int) = B * (ss.length : Int) + B := by simp [Int.mul_add]
    by_cases ha : a < 0
    · rw [sumR_neg l _ a ha]
      simp
      have : 0 ≤ B * ((ss.length : Int) + 1) := Int.mul_nonneg (by omega) (by omega)
      rw [if_pos ha]; omega
    · rw [sumR_cons l s ss a (by omega), if_neg ha, e]
      have hp : partR l s ≤ B := by unfold partR; split; omega; exact hl _
      have hm : 0 ≤ B * (ss.length : Int) := Int.mul_nonneg (by omega) (by omega)
      split
      · rename_i h0
        have := sumR_up l B hB hl ss (a + partR l s)
        rw [if_neg (by omega)] at this
        omega
      · omega
theorem sumR_low (l : List Int) : ∀ (ss : List Sym) (a : Int), 0 ≤ a → -1 ≤ sumR l a ss
  | [], a, h => by simp [sumR]; omega
  | s :: ss, a, h => by
    rw [sumR_cons l s ss a h]
    split
    · exact sumR_low l ss _ (by omega)
    · omega
/-- A right side has a length just if all its parts have. -/
theorem sumR_nonneg (l : List Int) : ∀ (ss : List Sym) (a : Int), 0 ≤ a → (0 ≤ sumR l a ss ↔ ∀ s ∈ ss, s.term = false → 0 ≤ l.getD s.n.toNat 0)
  | [], a, h => by simp [sumR, h]
  | s :: ss, a, h => by
    rw [sumR_cons l s ss a h]
    by_cases hp : 0 ≤ partR l s
    · rw [if_pos hp, sumR_nonneg l ss _ (by omega)]
      simp only [List.mem_cons, forall_eq_or_imp]
      constructor
      · exact fun h2 => ⟨fun hs => by unfold partR at hp; rw [hs] at hp; simpa using hp, h2⟩
      · exact fun h2 => h2.2
    · rw [if_neg hp]
      constructor
      · intro h; omega
      · intro h2
        exfalso
        apply hp
        unfold partR
        cases hs : s.term
        · simpa using h2 s (by simp) hs
        · simp
theorem useB_iff (l : List Int) (q : Rule) : useB l q = true ↔ ∀ s ∈ q.right, s.term = false → 0 ≤ l.getD s.n.toNat 0 := by
  unfold useB
  rw [Bool.not_eq_true', ← Bool.not_eq_true, List.any_eq_true]
  constructor
  · intro h s hs ht
    false_or_by_contra
    rename_i hneg
    exact h ⟨s, hs, by simp only [ht, Bool.not_false, Bool.true_and, decide_eq_true_eq]; omega⟩
  · rintro h ⟨s, hs, hp⟩
    simp at hp
    have := h s hs hp.1
    rw [List.getD_eq_getElem?_getD] at this
    omega

theorem countP_set_up {p : Int → Bool} : ∀ (l : List Int) (k : Nat) (x y : Int), l[k]? = some x → p y = true → (l.set k y).countP p = l.countP p + (if p x then 0 else 1)
  | [], k, x, y, h, _ => by simp at h
  | a :: l, 0, x, y, h, hy => by
    simp at h; subst h
    simp only [List.set_cons_zero, List.countP_cons, hy, if_true]
    split <;> omega
  | a :: l, k + 1, x, y, h, hy => by
    have := countP_set_up l k x y (by simpa using h) hy
    simp only [List.set_cons_succ, List.countP_cons, this]
    omega
theorem LShape.step {n : Nat} {l : List Int} (h : LShape n l) (q : Rule) (hq : q.left.toNat < n) (hr : q.right.length ≤ 4) : LShape n (lenStep l q) := by
  unfold lenStep
  split
  · rename_i hc
    obtain ⟨x, hx⟩ := get_some (show q.left.toNat < l.length by rw [h.len]; exact hq)
    have hxd : l.getD q.left.toNat 0 = x := by rw [List.getD_eq_getElem?_getD, hx]; rfl
    rw [hxd] at hc
    have hu := sumR_up l (pw (cntN l) : Int) (by have := pw_pos (cntN l); omega) (fun k => (h.get k).2) q.right 0
    have hcn := countP_set_up (p := fun x : Int => decide (0 ≤ x)) l q.left.toNat x (sumR l 0 q.right) hx (by simpa using hc.1)
    have hle : cntN l ≤ cntN (l.set q.left.toNat (sumR l 0 q.right)) := by unfold cntN; omega
    have hm := pw_mono hle
    have hp := pw_pos (cntN l)
    refine ⟨by simp [h.len], fun y hy => ?_, fun y hy => ?_⟩
    · rcases List.mem_or_eq_of_mem_set hy with hy | rfl
      · exact h.low y hy
      · omega
    · rcases List.mem_or_eq_of_mem_set hy with hy | rfl
      · have := h.high y hy; omega
      · by_cases hx0 : 0 ≤ x
        · have := h.high x (List.mem_of_getElem? hx); omega
        · have hcn2 : cntN (l.set q.left.toNat (sumR l 0 q.right)) = cntN l + 1 := by unfold cntN; rw [hcn]; simp [hx0]
          rw [hcn2, pw_succ]
          have h4 : (pw (cntN l) : Int) * (q.right.length : Int) ≤ (pw (cntN l) : Int) * 4 := Int.mul_le_mul_of_nonneg_left (by omega) (by omega)
          simp at hu
          omega
  · exact h
theorem LShape.pass {n : Nat} : ∀ (rs : List Rule) (l : List Int), LShape n l → (∀ q ∈ rs, q.left.toNat < n ∧ q.right.length ≤ 4) → LShape n (lenPass rs l)
  | [], l, h, _ => h
  | q :: rs, l, h, hr => LShape.pass rs (lenStep l q) (h.step q (hr q (by simp)).1 (hr q (by simp)).2) (fun x hx => hr x (by simp [hx]))

/-- What is left to fall. -/
def fuelI (x : Int) : Nat := if x < 0 then 1048577 else x.toNat
def lenFuel (l : List Int) : Nat := (l.map fuelI).sum
theorem lsum_set : ∀ (l : List Nat) (i x y : Nat), l[i]? = some x → (l.set i y).sum + x = l.sum + y
  | [], _, _, _, h => by simp at h
  | a :: l, 0, x, y, h => by simp at h; subst h; simp; omega
  | a :: l, i + 1, x, y, h => by
    have := lsum_set l i x y (by simpa using h)
    simp only [List.set_cons_succ, List.sum_cons]
    omega
theorem lenStep_fuel {n : Nat} {l : List Int} (h : LShape n l) (hn : n ≤ 10) (q : Rule) (hq : q.left.toNat < n) (hr : q.right.length ≤ 4) : lenStep l q = l ∨ lenFuel (lenStep l q) < lenFuel l := by
  have h2 := (h.step q hq hr).bound hn
  obtain ⟨x, hx⟩ := get_some (show q.left.toNat < l.length by rw [h.len]; exact hq)
  have hxd : l.getD q.left.toNat 0 = x := by rw [List.getD_eq_getElem?_getD, hx]; rfl
  unfold lenStep at h2 ⊢
  rw [hxd] at h2 ⊢
  split
  · rename_i hc
    rw [if_pos hc] at h2
    right
    have hl : q.left.toNat < l.length := (List.getElem?_eq_some_iff.1 hx).1
    have hv := h2 (sumR l 0 q.right) (List.mem_iff_getElem.2 ⟨q.left.toNat, by simpa using hl, by simp⟩)
    have hs := lsum_set (l.map fuelI) q.left.toNat (fuelI x) (fuelI (sumR l 0 q.right)) (by rw [List.getElem?_map, hx]; rfl)
    have hlt : fuelI (sumR l 0 q.right) < fuelI x := by
      unfold fuelI
      rw [if_neg (by omega)]
      split <;> omega
    unfold lenFuel
    rw [List.map_set]
    omega
  · left; rfl

/-- A table that no rule's step turns. -/
structure LFix (g : Gram) (n : Nat) (l : List Int) : Prop where
  shape : LShape n l
  iter : ∃ k, l = lenIter g.rules k (lenInit n)
  fix : ∀ q ∈ g.rules, lenStep l q = l
theorem LFix.closed {g : Gram} {n : Nat} {l : List Int} (h : LFix g n l) {q : Rule} (hq : q ∈ g.rules) (hl : q.left.toNat < n) (hu : useB l q = true) : 0 ≤ l.getD q.left.toNat 0 := by
  have hs := (sumR_nonneg l q.right 0 (by omega)).2 ((useB_iff l q).1 hu)
  have hf := h.fix q hq
  have hlt : q.left.toNat < l.length := by rw [h.shape.len]; exact hl
  unfold lenStep at hf
  false_or_by_contra
  rename_i hneg
  rw [if_pos ⟨hs, .inl (by omega)⟩] at hf
  have h2 := congrArg (fun z : List Int => z.getD q.left.toNat 0) hf
  simp only [List.getD_eq_getElem?_getD, List.getElem?_set, if_true, if_pos hlt] at h2
  rw [List.getD_eq_getElem?_getD] at hneg
  simp at h2
  omega
theorem lenStep_mono (l : List Int) (q : Rule) (k : Nat) (h : 0 ≤ l.getD k 0) (hk : k < l.length) : 0 ≤ (lenStep l q).getD k 0 := by
  unfold lenStep
  split
  · rename_i hc
    rw [List.getD_eq_getElem?_getD, List.getElem?_set]
    split
    · split
      · simpa using hc.1
      · simp
    · rw [List.getD_eq_getElem?_getD] at h; exact h
  · exact h

/-- The terminals and nonterminals of a rule are in range. -/
def RulesIn (g : Gram) (n : Nat) : Prop := ∀ q ∈ g.rules, 0 ≤ q.left ∧ q.left.toNat < n ∧ q.right.length ≤ 4 ∧ ∀ s ∈ q.right, 0 ≤ s.n ∧ (s.term = false → s.n.toNat < n)

mutual
/-- A tree's root has a word. -/
theorem vt_len {g : Gram} {n : Nat} {l : List Int} (h : LFix g n l) (hr : RulesIn g n) : ∀ (t : Tree) (s : Sym), vt g t s → s.term = false → 0 ≤ l.getD s.n.toNat 0
  | ⟨r, t, ks⟩, s, hv, hs => by
    unfold vt at hv
    rw [if_neg (by simp [hs])] at hv
    obtain ⟨_, _, q, hq, hql, hks⟩ := hv
    have hm := List.mem_of_getElem? hq
    rw [← hql]
    exact h.closed hm (hr q hm).2.1 ((useB_iff l q).2 (vts_len' h hr ks q.right hks))
theorem vts_len' {g : Gram} {n : Nat} {l : List Int} (h : LFix g n l) (hr : RulesIn g n) : ∀ (ks : List Tree) (ss : List Sym), vts g ks ss → ∀ s ∈ ss, s.term = false → 0 ≤ l.getD s.n.toNat 0
  | [], [], _, s, hs, _ => by simp at hs
  | [], _ :: _, hv, _, _, _ => by unfold vts at hv; exact hv.elim
  | _ :: _, [], hv, _, _, _ => by unfold vts at hv; exact hv.elim
  | k :: ks, x :: ss, hv, s, hs, ht => by
    unfold vts at hv
    rcases List.mem_cons.1 hs with rfl | hs
    · exact vt_len h hr k s hv.1 ht
    · exact vts_len' h hr ks ss hv.2 s hs ht
end

/-! ### Reached nonterminals -/
def symStep (s : List Bool) (x : Sym) : List Bool := if x.term then s else s.set x.n.toNat true
def reachStep (p : Rule → Bool) (s : List Bool) (q : Rule) : List Bool := if s.getD q.left.toNat false && p q then q.right.foldl symStep s else s
def reachPass (p : Rule → Bool) (rs : List Rule) (s : List Bool) : List Bool := rs.foldl (reachStep p) s
def reachIter (p : Rule → Bool) (rs : List Rule) : Nat → List Bool → List Bool
  | 0, s => s
  | k + 1, s => reachPass p rs (reachIter p rs k s)
def reachInit (n s0 : Nat) : List Bool := (List.replicate n false).set s0 true

theorem rcount_set : ∀ (l : List Bool) (i : Nat), (l.set i true).count false + (if l[i]? = some false then 1 else 0) = l.count false
  | [], i => by simp
  | a :: l, 0 => by cases a <;> simp
  | a :: l, i + 1 => by
    have := rcount_set l i
    simp only [List.set_cons_succ, List.count_cons, List.getElem?_cons_succ]
    omega
theorem set_true_id {l : List Bool} {i : Nat} (h : ¬ l[i]? = some false) : l.set i true = l := by
  apply List.ext_getElem?
  intro j
  rw [List.getElem?_set]
  split
  · rename_i e
    subst e
    split
    · rename_i hl
      rw [List.getElem?_eq_getElem hl] at h ⊢
      cases hb : l[i]
      · rw [hb] at h; exact absurd rfl h
      · rfl
    · rename_i hl
      rw [List.getElem?_eq_none (by omega)]
  · rfl
theorem symStep_len (s : List Bool) (x : Sym) : (symStep s x).length = s.length := by unfold symStep; split <;> simp
theorem symStep_count (s : List Bool) (x : Sym) : symStep s x = s ∨ (symStep s x).count false < s.count false := by
  unfold symStep
  split
  · exact .inl rfl
  · by_cases h : s[x.n.toNat]? = some false
    · right; have := rcount_set s x.n.toNat; rw [if_pos h] at this; omega
    · exact .inl (set_true_id h)
theorem symFold_len : ∀ (xs : List Sym) (s : List Bool), (xs.foldl symStep s).length = s.length
  | [], _ => rfl
  | x :: xs, s => by rw [List.foldl_cons, symFold_len xs, symStep_len]
theorem symFold_count : ∀ (xs : List Sym) (s : List Bool), xs.foldl symStep s = s ∨ (xs.foldl symStep s).count false < s.count false
  | [], s => .inl rfl
  | x :: xs, s => by
    rw [List.foldl_cons]
    rcases symStep_count s x with h | h
    · rw [h]; exact symFold_count xs s
    · rcases symFold_count xs (symStep s x) with h2 | h2
      · rw [h2]; exact .inr h
      · exact .inr (by omega)
theorem reachStep_len (p : Rule → Bool) (s : List Bool) (q : Rule) : (reachStep p s q).length = s.length := by unfold reachStep; split; exact symFold_len _ _; rfl
theorem reachStep_count (p : Rule → Bool) (s : List Bool) (q : Rule) : reachStep p s q = s ∨ (reachStep p s q).count false < s.count false := by
  unfold reachStep; split; exact symFold_count _ _; exact .inl rfl
theorem symStep_keep (s : List Bool) (x : Sym) (k : Nat) (h : s[k]? = some true) : (symStep s x)[k]? = some true := by
  unfold symStep
  split
  · exact h
  · rw [List.getElem?_set]
    split
    · rw [if_pos (by rename_i e; rw [e]; exact (List.getElem?_eq_some_iff.1 h).1)]
    · exact h
theorem symFold_keep : ∀ (xs : List Sym) (s : List Bool) (k : Nat), s[k]? = some true → (xs.foldl symStep s)[k]? = some true
  | [], _, _, h => h
  | x :: xs, s, k, h => symFold_keep xs _ k (symStep_keep s x k h)
theorem symFold_in : ∀ (xs : List Sym) (s : List Bool) (x : Sym), x ∈ xs → x.term = false → x.n.toNat < s.length → (xs.foldl symStep s)[x.n.toNat]? = some true
  | [], _, _, h, _, _ => by simp at h
  | y :: xs, s, x, h, ht, hl => by
    rw [List.foldl_cons]
    rcases List.mem_cons.1 h with rfl | h
    · apply symFold_keep
      unfold symStep
      rw [ht]
      simp [hl]
    · exact symFold_in xs _ x h ht (by rw [symStep_len]; exact hl)
/-- A row that no rule's step turns. -/
structure RFix (g : Gram) (p : Rule → Bool) (n : Nat) (s : List Bool) : Prop where
  len : s.length = n
  start : s[g.start.toNat]? = some true
  iter : ∃ k, s = reachIter p g.rules k (reachInit n g.start.toNat)
  fix : ∀ q ∈ g.rules, reachStep p s q = s
theorem RFix.closed {g : Gram} {p : Rule → Bool} {n : Nat} {s : List Bool} (h : RFix g p n s) {q : Rule} (hq : q ∈ g.rules) (hl : s[q.left.toNat]? = some true) (hp : p q = true) {x : Sym} (hx : x ∈ q.right) (ht : x.term = false) (hn : x.n.toNat < n) : s[x.n.toNat]? = some true := by
  have hf := h.fix q hq
  unfold reachStep at hf
  rw [List.getD_eq_getElem?_getD, hl, hp] at hf
  simp at hf
  rw [← hf]
  exact symFold_in q.right s x hx ht (by rw [h.len]; exact hn)

/-- The rules that remain. -/
def stayB (l : List Int) (s : List Bool) (q : Rule) : Bool := s.getD q.left.toNat false && useB l q
mutual
/-- All rules of a tree are among some numbers. -/
def allIn (rs : List Int) : Tree → Bool
  | ⟨r, _, ks⟩ => (decide (r < 0) || decide (r ∈ rs)) && allsIn rs ks
def allsIn (rs : List Int) : List Tree → Bool
  | [] => true
  | k :: ks => allIn rs k && allsIn rs ks
end
mutual
theorem vt_stay {g : Gram} {n : Nat} {l : List Int} {s : List Bool} (hl : LFix g n l) (hs : RFix g (useB l) n s) (hr : RulesIn g n) (rs : List Int) (hrs : ∀ (i : Nat) (q : Rule), g.rules[i]? = some q → stayB l s q = true → (i : Int) ∈ rs) :
    ∀ (t : Tree) (x : Sym), vt g t x → (x.term = false → s[x.n.toNat]? = some true) → allIn rs t = true
  | ⟨r, t, ks⟩, x, hv, hx => by
    unfold vt at hv
    unfold allIn
    cases hxt : x.term
    · rw [if_neg (by simp [hxt])] at hv
      obtain ⟨_, hr0, q, hq, hql, hks⟩ := hv
      have hm := List.mem_of_getElem? hq
      have hin := hx hxt
      rw [← hql] at hin
      have hu : useB l q = true := (useB_iff l q).2 (vts_len' hl hr ks q.right hks)
      have hst : stayB l s q = true := by unfold stayB; rw [List.getD_eq_getElem?_getD, hin, hu]; rfl
      have h1 := hrs r.toNat q hq hst
      rw [show ((r.toNat : Nat) : Int) = r from by omega] at h1
      rw [vts_stay hl hs hr rs hrs ks q.right hks (fun y hy ht => hs.closed hm hin hu hy ht ((hr q hm).2.2.2 y hy |>.2 ht))]
      simp [h1]
    · rw [if_pos hxt] at hv
      obtain ⟨rfl, _, rfl⟩ := hv
      simp [allsIn]
theorem vts_stay {g : Gram} {n : Nat} {l : List Int} {s : List Bool} (hl : LFix g n l) (hs : RFix g (useB l) n s) (hr : RulesIn g n) (rs : List Int) (hrs : ∀ (i : Nat) (q : Rule), g.rules[i]? = some q → stayB l s q = true → (i : Int) ∈ rs) :
    ∀ (ks : List Tree) (ss : List Sym), vts g ks ss → (∀ x ∈ ss, x.term = false → s[x.n.toNat]? = some true) → allsIn rs ks = true
  | [], [], _, _ => by simp [allsIn]
  | [], _ :: _, hv, _ => by unfold vts at hv; exact hv.elim
  | _ :: _, [], hv, _ => by unfold vts at hv; exact hv.elim
  | k :: ks, x :: ss, hv, h => by
    unfold vts at hv
    unfold allsIn
    rw [vt_stay hl hs hr rs hrs k x hv.1 (h x (by simp)), vts_stay hl hs hr rs hrs ks ss hv.2 (fun y hy => h y (by simp [hy]))]
    rfl
end
end Go.Proofs.YtjdojogjogenkaaDoor

/- The table of lengths that rounds in place end in has a rank: each length is the sum of lengths of smaller rank. No program is named here. -/
namespace Go.Proofs.YtjdojogjogenkaaDoor
open Go.RowKit
set_option linter.unusedVariables false

/-- Parts that are not longer give a sum that is not greater; one that is shorter, a smaller one. -/
theorem sumR_less {l l' : List Int} : ∀ (ss : List Sym) (a a' : Int), 0 ≤ a' → a' ≤ a → (∀ s ∈ ss, s.term = false → 0 ≤ l'.getD s.n.toNat 0 ∧ l'.getD s.n.toNat 0 ≤ l.getD s.n.toNat 0) →
    0 ≤ sumR l' a' ss ∧ sumR l' a' ss + (a - a') ≤ sumR l a ss ∧ ((∃ s ∈ ss, s.term = false ∧ l'.getD s.n.toNat 0 < l.getD s.n.toNat 0) → sumR l' a' ss + (a - a') < sumR l a ss)
  | [], a, a', h0, h1, _ => by simp [sumR]; omega
  | s :: ss, a, a', h0, h1, h => by
    have hp : 0 ≤ partR l' s ∧ partR l' s ≤ partR l s := by
      unfold partR
      cases hs : s.term
      · simpa [hs] using h s (by simp) hs
      · simp
    obtain ⟨i1, i2, i3⟩ := sumR_less ss (a + partR l s) (a' + partR l' s) (by omega) (by omega) (fun x hx => h x (by simp [hx]))
    rw [sumR_cons l s ss a (by omega), sumR_cons l' s ss a' h0, if_pos hp.1, if_pos (show 0 ≤ partR l s by omega)]
    refine ⟨i1, by omega, ?_⟩
    rintro ⟨x, hx, ht, hlt⟩
    rcases List.mem_cons.1 hx with rfl | hx
    · have : partR l' x < partR l x := by unfold partR; rw [ht]; simpa using hlt
      omega
    · have := i3 ⟨x, hx, ht, hlt⟩
      omega

theorem sumR_same {l l' : List Int} : ∀ (ss : List Sym) (a : Int), (∀ s ∈ ss, s.term = false → l'.getD s.n.toNat 0 = l.getD s.n.toNat 0) → sumR l' a ss = sumR l a ss
  | [], a, _ => rfl
  | s :: ss, a, h => by
    unfold sumR
    rw [sumR_same ss _ (fun x hx => h x (by simp [hx]))]
    cases hs : s.term
    · rw [h s (by simp) hs]
    · simp
theorem sumR_from (l : List Int) : ∀ (ss : List Sym) (a : Int), 0 ≤ a → 0 ≤ sumR l a ss → a ≤ sumR l a ss
  | [], a, _, _ => Int.le_refl _
  | s :: ss, a, ha, h => by
    rw [sumR_cons l s ss a ha] at h ⊢
    split
    · rename_i hp
      rw [if_pos hp] at h
      have := sumR_from l ss (a + partR l s) (by omega) h
      omega
    · rename_i hp
      rw [if_neg hp] at h
      omega
theorem sumR_ge (l : List Int) : ∀ (ss : List Sym) (a : Int), 0 ≤ a → 0 ≤ sumR l a ss → ∀ s ∈ ss, s.term = false → l.getD s.n.toNat 0 ≤ sumR l a ss
  | s :: ss, a, ha, h, x, hx, ht => by
    rw [sumR_cons l s ss a ha] at h ⊢
    split
    · rename_i hp
      rw [if_pos hp] at h
      rcases List.mem_cons.1 hx with rfl | hx
      · have := sumR_from l ss (a + partR l x) (by omega) h
        have e : partR l x = l.getD x.n.toNat 0 := by unfold partR; rw [ht]; rfl
        omega
      · exact sumR_ge l ss (a + partR l s) (by omega) h x hx ht
    · rename_i hp
      rw [if_neg hp] at h
      omega

structure RankI (rs : List Rule) (l : List Int) (T : Nat → Nat) (top : Nat) : Prop where
  top : ∀ k, T k ≤ top
  how : ∀ x, x < l.length → 0 ≤ l.getD x 0 → ∃ q ∈ rs, q.left.toNat = x ∧ 0 ≤ sumR l 0 q.right ∧ sumR l 0 q.right ≤ l.getD x 0 ∧ (sumR l 0 q.right = l.getD x 0 → ∀ s ∈ q.right, s.term = false → T s.n.toNat < T x)

theorem RankI.init (rs : List Rule) (n : Nat) : RankI rs (lenInit n) (fun _ => 0) 0 :=
  ⟨fun _ => Nat.le_refl _, fun x hx h => by
    simp [lenInit] at hx
    simp [lenInit, List.getD_eq_getElem?_getD, hx] at h⟩
theorem getD_set {l : List Int} {i k : Nat} {v : Int} (hi : i < l.length) : (l.set i v).getD k 0 = if k = i then v else l.getD k 0 := by
  rw [List.getD_eq_getElem?_getD, List.getD_eq_getElem?_getD, List.getElem?_set]
  by_cases e : i = k
  · subst e; simp [hi]
  · rw [if_neg e, if_neg (fun h => e h.symm)]
theorem RankI.step {rs : List Rule} {l : List Int} {T : Nat → Nat} {top : Nat} (h : RankI rs l T top) (q : Rule) (hq : q ∈ rs) (hl : q.left.toNat < l.length) :
    ∃ T' top', RankI rs (lenStep l q) T' top' := by
  unfold lenStep
  split
  · rename_i hc
    obtain ⟨h0, hlt⟩ := hc
    have hparts := (sumR_nonneg l q.right 0 (Int.le_refl 0)).1 h0
    refine ⟨fun k => if k = q.left.toNat then top + 1 else T k, top + 1, fun k => ?_, fun x hx hx0 => ?_⟩
    · split
      · exact Nat.le_refl _
      · have := h.top k; omega
    · rw [List.length_set] at hx
      rw [getD_set hl] at hx0 ⊢
      by_cases e : x = q.left.toNat
      · subst e
        rw [if_pos rfl] at hx0 ⊢
        -- the rule itself: its left is not among its parts
        have hnot : ∀ s ∈ q.right, s.term = false → s.n.toNat ≠ q.left.toNat := by
          intro s hs ht es
          have h1 := hparts s hs ht
          rw [es] at h1
          have h2 := sumR_ge l q.right 0 (Int.le_refl 0) h0 s hs ht
          rw [es] at h2
          rcases hlt with h3 | h3 <;> omega
        have heq : sumR (l.set q.left.toNat (sumR l 0 q.right)) 0 q.right = sumR l 0 q.right := sumR_same q.right 0 (fun s hs ht => by rw [getD_set hl, if_neg (hnot s hs ht)])
        refine ⟨q, hq, rfl, by rw [heq]; exact h0, by rw [heq]; exact Int.le_refl _, fun _ s hs ht => ?_⟩
        rw [if_pos rfl, if_neg (hnot s hs ht)]
        have := h.top s.n.toNat
        omega
      · rw [if_neg e] at hx0 ⊢
        obtain ⟨p, hp, hpl, p0, p1, p2⟩ := h.how x hx hx0
        have hpp := (sumR_nonneg l p.right 0 (Int.le_refl 0)).1 p0
        obtain ⟨i1, i2, i3⟩ := sumR_less (l := l) (l' := l.set q.left.toNat (sumR l 0 q.right)) p.right 0 0 (Int.le_refl 0) (Int.le_refl 0) (fun s hs ht => by
          rw [getD_set hl]
          have h1 := hpp s hs ht
          split
          · rename_i es
            rw [es] at h1 ⊢
            rcases hlt with h3 | h3 <;> omega
          · omega)
        refine ⟨p, hp, hpl, i1, by omega, fun he s hs ht => ?_⟩
        rw [if_neg e]
        by_cases es : s.n.toNat = q.left.toNat
        · exfalso
          have h1 := hpp s hs ht
          have := i3 ⟨s, hs, ht, by rw [getD_set hl, if_pos es]; rw [es] at h1 ⊢; rcases hlt with h3 | h3 <;> omega⟩
          omega
        · rw [if_neg es]
          exact p2 (by omega) s hs ht
  · exact ⟨T, top, h⟩
end Go.Proofs.YtjdojogjogenkaaDoor

/- What useful.Trim computes, and the plain law of UsefulOnce: in a trimmed grammar all nonterminals have a word and are reached. No program is named here. -/
namespace Go.Proofs.YtjdojogjogenkaaDoor
open Go.RowKit
set_option linter.unusedVariables false

/-- A nonterminal's new number. -/
def toV (s : List Bool) (n : Nat) : Nat := if s.getD n false then (s.take n).count true else 0
def renSym (s : List Bool) (x : Sym) : Sym := if x.term then x else ⟨false, (toV s x.n.toNat : Nat)⟩
def trimRule (s : List Bool) (q : Rule) : Rule := ⟨(toV s q.left.toNat : Nat), q.right.map (renSym s)⟩
def trimG (g : Gram) (l : List Int) (s : List Bool) : Gram := ⟨g.terms, (s.count true : Nat), (toV s g.start.toNat : Nat), (g.rules.filter (stayB l s)).map (trimRule s)⟩

/-! Numbers of the true places. -/
theorem take_count_lt : ∀ (s : List Bool) (i j : Nat), i < j → s[i]? = some true → (s.take i).count true < (s.take j).count true
  | [], i, j, _, h => by simp at h
  | a :: s, 0, j + 1, _, h => by simp at h; subst h; simp
  | a :: s, i + 1, j + 1, hij, h => by
    have := take_count_lt s i j (by omega) (by simpa using h)
    simp only [List.take_succ_cons, List.count_cons]
    omega
theorem toV_lt {s : List Bool} {i : Nat} (h : s[i]? = some true) : toV s i < s.count true := by
  unfold toV
  rw [List.getD_eq_getElem?_getD, h]
  have hl := (List.getElem?_eq_some_iff.1 h).1
  have := take_count_lt s i s.length hl h
  rw [List.take_length] at this
  simpa using this
theorem toV_inj {s : List Bool} {i j : Nat} (hi : s[i]? = some true) (hj : s[j]? = some true) (h : toV s i = toV s j) : i = j := by
  unfold toV at h
  rw [List.getD_eq_getElem?_getD, hi, List.getD_eq_getElem?_getD, hj] at h
  simp at h
  rcases Nat.lt_trichotomy i j with hl | rfl | hl
  · have := take_count_lt s i j hl hi; omega
  · rfl
  · have := take_count_lt s j i hl hj; omega
theorem toV_onto : ∀ (s : List Bool) (k : Nat), k < s.count true → ∃ i, s[i]? = some true ∧ (s.take i).count true = k
  | [], k, h => by simp at h
  | false :: s, k, h => by
    obtain ⟨i, h1, h2⟩ := toV_onto s k (by simpa using h)
    exact ⟨i + 1, by simpa using h1, by simp [h2]⟩
  | true :: s, 0, h => ⟨0, rfl, by simp⟩
  | true :: s, k + 1, h => by
    obtain ⟨i, h1, h2⟩ := toV_onto s k (by simpa using h)
    exact ⟨i + 1, by simpa using h1, by simp [h2]⟩
theorem toV_ex {s : List Bool} {k : Nat} (h : k < s.count true) : ∃ i, s[i]? = some true ∧ toV s i = k := by
  obtain ⟨i, h1, h2⟩ := toV_onto s k h
  exact ⟨i, h1, by unfold toV; rw [List.getD_eq_getElem?_getD, h1]; simpa using h2⟩

/-! Derived nonterminals, reached nonterminals. -/
inductive Der (g : Gram) : Nat → Prop where
  | mk (q : Rule) (hq : q ∈ g.rules) (h : ∀ x ∈ q.right, x.term = false → Der g x.n.toNat) : Der g q.left.toNat
inductive Rea (g : Gram) (p : Rule → Bool) : Nat → Prop where
  | start : Rea g p g.start.toNat
  | step (q : Rule) (hq : q ∈ g.rules) (h : Rea g p q.left.toNat) (hp : p q = true) (x : Sym) (hx : x ∈ q.right) (ht : x.term = false) : Rea g p x.n.toNat

theorem getD_of {α : Type} {l : List α} {k : Nat} {x d : α} (h : l[k]? = some x) : l.getD k d = x := by rw [List.getD_eq_getElem?_getD, h]; rfl
theorem lenStep_der {g : Gram} {n : Nat} {l : List Int} (hl : l.length = n) (h : ∀ k, k < n → 0 ≤ l.getD k 0 → Der g k) (q : Rule) (hq : q ∈ g.rules) (hr : RulesIn g n) : ∀ k, k < n → 0 ≤ (lenStep l q).getD k 0 → Der g k := by
  intro k hk h0
  unfold lenStep at h0
  split at h0
  · rename_i hc
    by_cases e : q.left.toNat = k
    · subst e
      refine Der.mk q hq fun x hx ht => h _ ((hr q hq).2.2.2 x hx |>.2 ht) ?_
      exact (sumR_nonneg l q.right 0 (by omega)).1 hc.1 x hx ht
    · rw [List.getD_eq_getElem?_getD, List.getElem?_set, if_neg e, ← List.getD_eq_getElem?_getD] at h0
      exact h k hk h0
  · exact h k hk h0
theorem lenStep_len (l : List Int) (q : Rule) : (lenStep l q).length = l.length := by unfold lenStep; split <;> simp
theorem lenPass_len : ∀ (rs : List Rule) (l : List Int), (lenPass rs l).length = l.length
  | [], l => rfl
  | q :: rs, l => by show (lenPass rs (lenStep l q)).length = _; rw [lenPass_len rs, lenStep_len]
theorem lenPass_der {g : Gram} {n : Nat} (hr : RulesIn g n) : ∀ (rs : List Rule) (l : List Int), (∀ q ∈ rs, q ∈ g.rules) → l.length = n → (∀ k, k < n → 0 ≤ l.getD k 0 → Der g k) → ∀ k, k < n → 0 ≤ (lenPass rs l).getD k 0 → Der g k
  | [], l, _, _, h => h
  | q :: rs, l, hq, hl, h => lenPass_der hr rs (lenStep l q) (fun x hx => hq x (by simp [hx])) (by rw [lenStep_len, hl]) (lenStep_der hl h q (hq q (by simp)) hr)
theorem lenIter_der {g : Gram} {n : Nat} (hr : RulesIn g n) : ∀ (j : Nat), (lenIter g.rules j (lenInit n)).length = n ∧ ∀ k, k < n → 0 ≤ (lenIter g.rules j (lenInit n)).getD k 0 → Der g k
  | 0 => ⟨by simp [lenIter, lenInit], fun k hk h => by
    exfalso
    rw [lenIter, lenInit, List.getD_eq_getElem?_getD, List.getElem?_replicate, if_pos hk] at h
    simp at h⟩
  | j + 1 => by
    obtain ⟨h1, h2⟩ := lenIter_der hr j
    exact ⟨by rw [lenIter, lenPass_len, h1], lenPass_der hr g.rules _ (fun q h => h) h1 h2⟩
theorem LFix.der {g : Gram} {n : Nat} {l : List Int} (h : LFix g n l) (hr : RulesIn g n) {k : Nat} (hk : k < n) (h0 : 0 ≤ l.getD k 0) : Der g k := by
  obtain ⟨j, hj⟩ := h.iter
  rw [hj] at h0
  exact (lenIter_der hr j).2 k hk h0
theorem LFix.of_der {g : Gram} {n : Nat} {l : List Int} (h : LFix g n l) (hr : RulesIn g n) {k : Nat} (hd : Der g k) : 0 ≤ l.getD k 0 := by
  induction hd with
  | mk q hq _ ih => exact h.closed hq (hr q hq).2.1 ((useB_iff l q).2 ih)

theorem symFold_rea {g : Gram} {p : Rule → Bool} (q : Rule) (hq : q ∈ g.rules) (hl : Rea g p q.left.toNat) (hp : p q = true) : ∀ (xs : List Sym) (s : List Bool), (∀ x ∈ xs, x ∈ q.right) → (∀ k : Nat, s[k]? = some true → Rea g p k) → ∀ k : Nat, (xs.foldl symStep s)[k]? = some true → Rea g p k
  | [], s, _, h => h
  | x :: xs, s, hx, h => symFold_rea q hq hl hp xs (symStep s x) (fun y hy => hx y (by simp [hy])) (fun k hk => by
    unfold symStep at hk
    split at hk
    · exact h k hk
    · rename_i ht
      rw [List.getElem?_set] at hk
      split at hk
      · rename_i e
        subst e
        exact Rea.step q hq hl hp x (hx x (by simp)) (by simpa using ht)
      · exact h k hk)
theorem reachPass_rea {g : Gram} {p : Rule → Bool} : ∀ (rs : List Rule) (s : List Bool), (∀ q ∈ rs, q ∈ g.rules) → (∀ k : Nat, s[k]? = some true → Rea g p k) → ∀ k : Nat, (reachPass p rs s)[k]? = some true → Rea g p k
  | [], s, _, h => h
  | q :: rs, s, hq, h => reachPass_rea rs (reachStep p s q) (fun x hx => hq x (by simp [hx])) (fun k hk => by
    unfold reachStep at hk
    split at hk
    · rename_i hc
      simp only [Bool.and_eq_true] at hc
      have hl : s[q.left.toNat]? = some true := by
        have := hc.1
        rw [List.getD_eq_getElem?_getD] at this
        cases hs : s[q.left.toNat]? with
        | none => rw [hs] at this; simp at this
        | some b => rw [hs] at this; simp at this; rw [this]
      exact symFold_rea q (hq q (by simp)) (h _ hl) hc.2 q.right s (fun x hx => hx) h k hk
    · exact h k hk)
theorem reachIter_rea {g : Gram} {p : Rule → Bool} {n : Nat} : ∀ (j : Nat) (k : Nat), (reachIter p g.rules j (reachInit n g.start.toNat))[k]? = some true → Rea g p k
  | 0, k, h => by
    rw [reachIter, reachInit, List.getElem?_set] at h
    split at h
    · rename_i e; subst e; exact Rea.start
    · rw [List.getElem?_replicate] at h
      split at h <;> simp at h
  | j + 1, k, h => reachPass_rea g.rules _ (fun q h => h) (reachIter_rea j) k h
theorem RFix.rea {g : Gram} {p : Rule → Bool} {n : Nat} {s : List Bool} (h : RFix g p n s) {k : Nat} (hk : s[k]? = some true) : Rea g p k := by
  obtain ⟨j, hj⟩ := h.iter
  rw [hj] at hk
  exact reachIter_rea j k hk
/-- What is reached through rules whose parts all have a word has a word. -/
theorem reached_len {g : Gram} {n : Nat} {l : List Int} {k : Nat} (h0 : 0 ≤ l.getD g.start.toNat 0) (h : Rea g (useB l) k) : 0 ≤ l.getD k 0 := by
  cases h with
  | start => exact h0
  | step q hq h hp x hx ht => exact (useB_iff l q).1 hp x hx ht

/-- What Trim works on and leaves. -/
structure TrimS (g : Gram) (n : Nat) (l : List Int) (s : List Bool) : Prop where
  lens : LFix g n l
  reach : RFix g (useB l) n s
  rules : RulesIn g n
  pos : 0 ≤ l.getD g.start.toNat 0

theorem getD_true {s : List Bool} {k : Nat} : s.getD k false = true ↔ s[k]? = some true := by
  rw [List.getD_eq_getElem?_getD]
  cases s[k]? with
  | none => simp
  | some b => simp
theorem TrimS.stay {g : Gram} {n : Nat} {l : List Int} {s : List Bool} (h : TrimS g n l s) {q : Rule} (hq : q ∈ g.rules) (hl : s[q.left.toNat]? = some true) (hu : useB l q = true) : trimRule s q ∈ (trimG g l s).rules := by
  unfold trimG
  refine List.mem_map.2 ⟨q, List.mem_filter.2 ⟨hq, ?_⟩, rfl⟩
  unfold stayB
  rw [getD_true.2 hl, hu]; rfl
theorem TrimS.parts {g : Gram} {n : Nat} {l : List Int} {s : List Bool} (h : TrimS g n l s) {r : Rule} (hr : r ∈ (trimG g l s).rules) : ∃ q ∈ g.rules, s[q.left.toNat]? = some true ∧ useB l q = true ∧ r = trimRule s q ∧ ∀ x ∈ q.right, x.term = false → s[x.n.toNat]? = some true := by
  obtain ⟨q, hq, rfl⟩ := List.mem_map.1 hr
  obtain ⟨hq, hs⟩ := List.mem_filter.1 hq
  unfold stayB at hs
  simp only [Bool.and_eq_true] at hs
  have hl := getD_true.1 hs.1
  exact ⟨q, hq, hl, hs.2, rfl, fun x hx ht => h.reach.closed hq hl hs.2 hx ht ((h.rules q hq).2.2.2 x hx |>.2 ht)⟩
theorem TrimS.rulesIn {g : Gram} {n : Nat} {l : List Int} {s : List Bool} (h : TrimS g n l s) : RulesIn (trimG g l s) (s.count true) := by
  intro r hr
  obtain ⟨q, hq, hl, hu, rfl, hx⟩ := h.parts hr
  refine ⟨by simp [trimRule], by simpa [trimRule] using toV_lt hl, by simpa [trimRule] using (h.rules q hq).2.2.1, fun y hy => ?_⟩
  obtain ⟨x, hxm, rfl⟩ := List.mem_map.1 hy
  unfold renSym
  split
  · rename_i ht
    exact ⟨((h.rules q hq).2.2.2 x hxm).1, fun h => by rw [ht] at h; cases h⟩
  · rename_i ht
    exact ⟨by simp, fun _ => by simpa using toV_lt (hx x hxm (by simpa using ht))⟩
/-- All nonterminals of a trimmed grammar have a word. -/
theorem TrimS.der {g : Gram} {n : Nat} {l : List Int} {s : List Bool} (h : TrimS g n l s) {k : Nat} (hd : Der g k) (hk : s[k]? = some true) : Der (trimG g l s) (toV s k) := by
  induction hd with
  | mk q hq hx ih =>
    have hu : useB l q = true := (useB_iff l q).2 (fun x hxm ht => h.lens.of_der h.rules (hx x hxm ht))
    have hm := h.stay hq hk hu
    have e : toV s q.left.toNat = (trimRule s q).left.toNat := by simp [trimRule]
    rw [e]
    refine Der.mk _ hm fun y hy ht => ?_
    obtain ⟨x, hxm, rfl⟩ := List.mem_map.1 hy
    have hxt : x.term = false := by
      cases hb : x.term
      · rfl
      · unfold renSym at ht; rw [if_pos hb] at ht; rw [hb] at ht; cases ht
    have e2 : (renSym s x).n.toNat = toV s x.n.toNat := by unfold renSym; rw [if_neg (by simp [hxt])]; simp
    rw [e2]
    exact ih x hxm hxt (h.reach.closed hq hk hu hxm hxt ((h.rules q hq).2.2.2 x hxm |>.2 hxt))
theorem TrimS.ends {g : Gram} {n : Nat} {l : List Int} {s : List Bool} (h : TrimS g n l s) {l' : List Int} (h' : LFix (trimG g l s) (s.count true) l') {k : Nat} (hk : k < s.count true) : 0 ≤ l'.getD k 0 := by
  obtain ⟨i, hi, rfl⟩ := toV_ex hk
  have hin : i < n := by rw [← h.reach.len]; exact (List.getElem?_eq_some_iff.1 hi).1
  exact h'.of_der h.rulesIn (h.der (h.lens.der h.rules hin (reached_len (n := n) h.pos (h.reach.rea hi))) hi)
/-- All nonterminals of a trimmed grammar are reached. -/
theorem TrimS.rea {g : Gram} {n : Nat} {l : List Int} {s : List Bool} (h : TrimS g n l s) {p' : Rule → Bool} {s' : List Bool} (h' : RFix (trimG g l s) p' (s.count true) s') (hp : ∀ r ∈ (trimG g l s).rules, p' r = true) {k : Nat} (hr : Rea g (useB l) k) : s[k]? = some true ∧ s'[toV s k]? = some true := by
  induction hr with
  | start =>
    refine ⟨h.reach.start, ?_⟩
    have := h'.start
    simpa [trimG] using this
  | step q hq hl hu x hx ht ih =>
    have hxs := h.reach.closed hq ih.1 hu hx ht ((h.rules q hq).2.2.2 x hx |>.2 ht)
    refine ⟨hxs, ?_⟩
    have hm := h.stay hq ih.1 hu
    have e2 : (renSym s x).n.toNat = toV s x.n.toNat := by unfold renSym; rw [if_neg (by simp [ht])]; simp
    have := h'.closed hm (by simpa [trimRule] using ih.2) (hp _ hm) (x := renSym s x) (List.mem_map.2 ⟨x, hx, rfl⟩) (by unfold renSym; rw [if_neg (by simp [ht])]) (by rw [e2]; exact toV_lt hxs)
    rwa [e2] at this
theorem TrimS.reached {g : Gram} {n : Nat} {l : List Int} {s : List Bool} (h : TrimS g n l s) {p' : Rule → Bool} {s' : List Bool} (h' : RFix (trimG g l s) p' (s.count true) s') (hp : ∀ r ∈ (trimG g l s).rules, p' r = true) {k : Nat} (hk : k < s.count true) : s'[k]? = some true := by
  obtain ⟨i, hi, rfl⟩ := toV_ex hk
  exact (h.rea h' hp (h.reach.rea hi)).2

/-! A grammar that Trim leaves as it is. -/
theorem all_true {s : List Bool} {n : Nat} (hl : s.length = n) (h : ∀ k, k < n → s[k]? = some true) : s = List.replicate n true := by
  apply List.ext_getElem?
  intro k
  rw [List.getElem?_replicate]
  split
  · rename_i hk; exact h k hk
  · rename_i hk; exact List.getElem?_eq_none (by omega)
theorem toV_all {n k : Nat} (h : k < n) : toV (List.replicate n true) k = k := by
  unfold toV
  rw [List.getD_eq_getElem?_getD, List.getElem?_replicate, if_pos h]
  simp [List.take_replicate]; omega
theorem trim_same {g : Gram} {n : Nat} {l : List Int} (hr : RulesIn g n) (hn : g.nons = (n : Int)) (h0 : 0 ≤ g.start) (h1 : g.start.toNat < n) (hl : ∀ k, k < n → 0 ≤ l.getD k 0) : trimG g l (List.replicate n true) = g ∧ (∀ q ∈ g.rules, stayB l (List.replicate n true) q = true) := by
  have hst : ∀ q ∈ g.rules, stayB l (List.replicate n true) q = true := by
    intro q hq
    have h2 := hr q hq
    unfold stayB
    rw [List.getD_eq_getElem?_getD, List.getElem?_replicate, if_pos h2.2.1, (useB_iff l q).2 (fun x hx ht => hl _ (h2.2.2.2 x hx |>.2 ht))]
    rfl
  refine ⟨?_, hst⟩
  obtain ⟨gt, gn, gs, rs⟩ := g
  unfold trimG
  have e1 : (List.replicate n true).count true = n := by simp
  have e2 : rs.filter (stayB l (List.replicate n true)) = rs := List.filter_eq_self.2 hst
  have e3 : rs.map (trimRule (List.replicate n true)) = rs := by
    have : ∀ q ∈ rs, trimRule (List.replicate n true) q = id q := by
      intro q hq
      obtain ⟨a, b, c, d⟩ := hr q hq
      obtain ⟨ql, qr⟩ := q
      dsimp only at a b c d
      unfold trimRule
      have e4 : qr.map (renSym (List.replicate n true)) = qr := by
        have : ∀ x ∈ qr, renSym (List.replicate n true) x = id x := by
          intro x hx
          obtain ⟨h3, h4⟩ := d x hx
          obtain ⟨xt, xn⟩ := x
          dsimp only at h3 h4
          unfold renSym
          cases xt
          · simp only [Bool.false_eq_true, if_false]
            rw [toV_all (h4 rfl)]
            simp; omega
          · simp
        rw [List.map_congr_left this, List.map_id]
      rw [toV_all b, e4]
      simp; omega
    rw [List.map_congr_left this, List.map_id]
  dsimp only at *
  rw [e1, e2, e3, toV_all h1, hn]
  congr 1
  omega
end Go.Proofs.YtjdojogjogenkaaDoor

/- The reference's rounds of lengths, each from the round before, end in the same table. No program is named here. -/
namespace Go.Proofs.YtjdojogjogenkaaDoor
open Go.RowKit
set_option linter.unusedVariables false

theorem RankI.pass {rs : List Rule} {n : Nat} : ∀ (ps : List Rule) (l : List Int) (T : Nat → Nat) (top : Nat), RankI rs l T top → l.length = n → (∀ q ∈ ps, q ∈ rs ∧ q.left.toNat < n) → ∃ T' top', RankI rs (lenPass ps l) T' top' ∧ (lenPass ps l).length = n
  | [], l, T, top, h, hl, _ => ⟨T, top, h, hl⟩
  | q :: ps, l, T, top, h, hl, hp => by
    obtain ⟨T1, top1, h1⟩ := h.step q (hp q (by simp)).1 (by rw [hl]; exact (hp q (by simp)).2)
    exact RankI.pass ps (lenStep l q) T1 top1 h1 (by rw [lenStep_len, hl]) (fun x hx => hp x (by simp [hx]))
theorem RankI.iter {rs : List Rule} {n : Nat} (hp : ∀ q ∈ rs, q.left.toNat < n) : ∀ k : Nat, ∃ T top, RankI rs (lenIter rs k (lenInit n)) T top ∧ (lenIter rs k (lenInit n)).length = n
  | 0 => ⟨_, _, RankI.init rs n, by simp [lenIter, lenInit]⟩
  | k + 1 => by
    obtain ⟨T, top, h, hl⟩ := RankI.iter hp k
    exact RankI.pass rs _ T top h hl (fun q hq => ⟨hq, hp q hq⟩)

theorem LFix.low {g : Gram} {n : Nat} {l : List Int} (h : LFix g n l) {q : Rule} (hq : q ∈ g.rules) (hl : q.left.toNat < n) (h0 : 0 ≤ sumR l 0 q.right) : 0 ≤ l.getD q.left.toNat 0 ∧ l.getD q.left.toNat 0 ≤ sumR l 0 q.right := by
  have hf := h.fix q hq
  have hlt : q.left.toNat < l.length := by rw [h.shape.len]; exact hl
  unfold lenStep at hf
  split at hf
  · rename_i hc
    have h2 := congrArg (fun z : List Int => z.getD q.left.toNat 0) hf
    rw [getD_set hlt, if_pos rfl] at h2
    omega
  · omega
theorem LFix.rank {g : Gram} {n : Nat} {l : List Int} (h : LFix g n l) (hr : ∀ q ∈ g.rules, q.left.toNat < n) :
    ∃ T : Nat → Nat, ∀ x, x < n → 0 ≤ l.getD x 0 → ∃ q ∈ g.rules, q.left.toNat = x ∧ sumR l 0 q.right = l.getD x 0 ∧ ∀ s ∈ q.right, s.term = false → T s.n.toNat < T x := by
  obtain ⟨k, hk⟩ := h.iter
  obtain ⟨T, top, hT, hl⟩ := RankI.iter hr k
  rw [← hk] at hT hl
  refine ⟨T, fun x hx hx0 => ?_⟩
  obtain ⟨q, hq, hql, h0, h1, h2⟩ := hT.how x (by omega) hx0
  have h3 := h.low hq (hr q hq) h0
  rw [hql] at h3
  have he : sumR l 0 q.right = l.getD x 0 := by omega
  exact ⟨q, hq, hql, he, h2 he⟩

/-! The reference's rounds. -/
def jacStep (out next : List Int) (q : Rule) : List Int :=
  if 0 ≤ sumR out 0 q.right ∧ (next.getD q.left.toNat 0 < 0 ∨ sumR out 0 q.right < next.getD q.left.toNat 0) then next.set q.left.toNat (sumR out 0 q.right) else next
def jacRound (rs : List Rule) (out : List Int) : List Int := rs.foldl (jacStep out) out
def jacIter (rs : List Rule) : Nat → List Int → List Int
  | 0, l => l
  | k + 1, l => jacRound rs (jacIter rs k l)

/-- A table on the way: no length is too small. -/
structure JacI (n : Nat) (L out : List Int) : Prop where
  len : out.length = n
  low : ∀ x, x < n → -1 ≤ out.getD x 0
  ge : ∀ x, x < n → 0 ≤ out.getD x 0 → 0 ≤ L.getD x 0 ∧ L.getD x 0 ≤ out.getD x 0
/-- next is at most out, where out has a length. -/
def LeJ (n : Nat) (next out : List Int) : Prop := ∀ x, x < n → 0 ≤ out.getD x 0 → 0 ≤ next.getD x 0 ∧ next.getD x 0 ≤ out.getD x 0
theorem LeJ.refl (n : Nat) (l : List Int) : LeJ n l l := fun x _ h => ⟨h, Int.le_refl _⟩
theorem LeJ.trans {n : Nat} {a b c : List Int} (h : LeJ n a b) (k : LeJ n b c) : LeJ n a c := fun x hx hc => by
  obtain ⟨k1, k2⟩ := k x hx hc
  obtain ⟨h1, h2⟩ := h x hx k1
  exact ⟨h1, by omega⟩
theorem jacStep_le {n : Nat} {out next : List Int} (q : Rule) (hn : next.length = n) (hq : q.left.toNat < n) : LeJ n (jacStep out next q) next ∧ (0 ≤ sumR out 0 q.right → 0 ≤ (jacStep out next q).getD q.left.toNat 0 ∧ (jacStep out next q).getD q.left.toNat 0 ≤ sumR out 0 q.right) := by
  unfold jacStep
  split
  · rename_i hc
    refine ⟨fun x hx h0 => ?_, fun h0 => ?_⟩
    · rw [getD_set (by omega)]
      split
      · rename_i e
        subst e
        omega
      · exact ⟨h0, Int.le_refl _⟩
    · rw [getD_set (by omega), if_pos rfl]
      exact ⟨h0, Int.le_refl _⟩
  · exact ⟨LeJ.refl _ _, fun h0 => by omega⟩
theorem jacStep_inv {g : Gram} {n : Nat} {L out next : List Int} (h : LFix g n L) (hr : ∀ q ∈ g.rules, q.left.toNat < n ∧ ∀ s ∈ q.right, s.term = false → s.n.toNat < n) (q : Rule) (hq : q ∈ g.rules) (ho : JacI n L out) (hn : JacI n L next) : JacI n L (jacStep out next q) := by
  unfold jacStep
  split
  · rename_i hc
    have hql := (hr q hq).1
    have hlen : q.left.toNat < next.length := by rw [hn.len]; exact hql
    have hp := (sumR_nonneg out q.right 0 (Int.le_refl 0)).1 hc.1
    obtain ⟨i1, i2, _⟩ := sumR_less (l := out) (l' := L) q.right 0 0 (Int.le_refl 0) (Int.le_refl 0) (fun s hs ht => ho.ge _ ((hr q hq).2 s hs ht) (hp s hs ht))
    have h3 := h.low hq hql i1
    refine ⟨by rw [List.length_set, hn.len], fun x hx => ?_, fun x hx h0 => ?_⟩
    · rw [getD_set hlen]
      split
      · omega
      · exact hn.low x hx
    · rw [getD_set hlen] at h0 ⊢
      split
      · rename_i e
        subst e
        omega
      · rename_i e
        rw [if_neg e] at h0
        exact hn.ge x hx h0
  · exact hn
theorem jac_fold {g : Gram} {n : Nat} {L out : List Int} (h : LFix g n L) (hr : ∀ q ∈ g.rules, q.left.toNat < n ∧ ∀ s ∈ q.right, s.term = false → s.n.toNat < n) (ho : JacI n L out) : ∀ (ps : List Rule) (next : List Int), (∀ q ∈ ps, q ∈ g.rules) → JacI n L next →
    JacI n L (ps.foldl (jacStep out) next) ∧ LeJ n (ps.foldl (jacStep out) next) next ∧ ∀ q ∈ ps, 0 ≤ sumR out 0 q.right → 0 ≤ (ps.foldl (jacStep out) next).getD q.left.toNat 0 ∧ (ps.foldl (jacStep out) next).getD q.left.toNat 0 ≤ sumR out 0 q.right
  | [], next, _, hn => ⟨hn, LeJ.refl _ _, by simp⟩
  | q :: ps, next, hp, hn => by
    have hq := hp q (by simp)
    obtain ⟨s1, s2⟩ := jacStep_le (out := out) q hn.len (hr q hq).1
    obtain ⟨i1, i2, i3⟩ := jac_fold h hr ho ps (jacStep out next q) (fun x hx => hp x (by simp [hx])) (jacStep_inv h hr q hq ho hn)
    refine ⟨i1, i2.trans s1, fun x hx h0 => ?_⟩
    rcases List.mem_cons.1 hx with rfl | hx
    · obtain ⟨j1, j2⟩ := s2 h0
      obtain ⟨k1, k2⟩ := i2 _ (hr _ hq).1 j1
      exact ⟨k1, Int.le_trans k2 j2⟩
    · exact i3 x hx h0

theorem countP_less {p p' : Nat → Bool} : ∀ (l : List Nat), (∀ x ∈ l, p' x = true → p x = true) → (∃ x ∈ l, p x = true ∧ p' x = false) → l.countP p' < l.countP p
  | [], _, h => by obtain ⟨x, hx, _⟩ := h; simp at hx
  | a :: l, hm, h => by
    have hle : l.countP p' ≤ l.countP p := List.countP_mono_left (fun x hx => hm x (by simp [hx]))
    obtain ⟨x, hx, h1, h2⟩ := h
    rw [List.countP_cons, List.countP_cons]
    rcases List.mem_cons.1 hx with rfl | hx
    · rw [h1, h2]; simp; omega
    · have ih := countP_less l (fun y hy => hm y (by simp [hy])) ⟨x, hx, h1, h2⟩
      have ha := hm a (by simp)
      cases hp' : p' a
      · simp; omega
      · rw [ha hp']; simp; omega
def wrongJ (n : Nat) (L out : List Int) : Nat := (List.range n).countP fun x => decide (out.getD x 0 ≠ L.getD x 0)
theorem JacI.none {g : Gram} {n : Nat} {L out : List Int} (h : LFix g n L) (ho : JacI n L out) {x : Nat} (hx : x < n) (hL : ¬ 0 ≤ L.getD x 0) : out.getD x 0 = L.getD x 0 := by
  have h1 := ho.low x hx
  have h2 := (h.shape.get x).1
  have h3 : ¬ 0 ≤ out.getD x 0 := fun h4 => hL (ho.ge x hx h4).1
  omega
theorem jac_less {g : Gram} {n : Nat} {L out : List Int} (h : LFix g n L) (hr : ∀ q ∈ g.rules, q.left.toNat < n ∧ ∀ s ∈ q.right, s.term = false → s.n.toNat < n) (ho : JacI n L out) :
    JacI n L (jacRound g.rules out) ∧ (wrongJ n L out = 0 ∨ wrongJ n L (jacRound g.rules out) < wrongJ n L out) ∧ wrongJ n L (jacRound g.rules out) ≤ wrongJ n L out := by
  obtain ⟨i1, i2, i3⟩ := jac_fold h hr ho g.rules out (fun q hq => hq) ho
  have hkeep : ∀ x, x < n → out.getD x 0 = L.getD x 0 → (jacRound g.rules out).getD x 0 = L.getD x 0 := fun x hx he => by
    by_cases hL : 0 ≤ L.getD x 0
    · obtain ⟨j1, j2⟩ := i2 x hx (by omega)
      have := (i1.ge x hx j1).2
      show (List.foldl (jacStep out) out g.rules).getD x 0 = _
      omega
    · exact i1.none h hx hL
  have hmono : ∀ x ∈ List.range n, decide ((jacRound g.rules out).getD x 0 ≠ L.getD x 0) = true → decide (out.getD x 0 ≠ L.getD x 0) = true := fun x hx hp => by
    have hx := List.mem_range.1 hx
    simp only [decide_eq_true_eq] at hp ⊢
    exact fun e => hp (hkeep x hx e)
  refine ⟨i1, ?_, List.countP_mono_left hmono⟩
  obtain ⟨T, hT⟩ := h.rank (fun q hq => (hr q hq).1)
  by_cases hw : ∃ x, x < n ∧ out.getD x 0 ≠ L.getD x 0
  · refine .inr (countP_less _ hmono ?_)
    obtain ⟨x, hx, hne⟩ := hw
    have key : ∀ (t x : Nat), T x = t → x < n → out.getD x 0 ≠ L.getD x 0 → ∃ y, y < n ∧ out.getD y 0 ≠ L.getD y 0 ∧ (jacRound g.rules out).getD y 0 = L.getD y 0 := by
      intro t
      induction t using Nat.strongRecOn with
      | _ t ih =>
        intro x ht hx hne
        have hL : 0 ≤ L.getD x 0 := by
          false_or_by_contra
          rename_i hn
          exact hne (ho.none h hx hn)
        obtain ⟨q, hq, hql, hs, hp⟩ := hT x hx hL
        by_cases hall : ∃ s ∈ q.right, s.term = false ∧ out.getD s.n.toNat 0 ≠ L.getD s.n.toNat 0
        · obtain ⟨s, hs1, hs2, hs3⟩ := hall
          exact ih (T s.n.toNat) (by rw [← ht]; exact hp s hs1 hs2) s.n.toNat rfl ((hr q hq).2 s hs1 hs2) hs3
        · have he : sumR out 0 q.right = sumR L 0 q.right := sumR_same q.right 0 (fun s h1 h2 => by
            false_or_by_contra
            rename_i hn
            exact hall ⟨s, h1, h2, hn⟩)
          obtain ⟨j1, j2⟩ := i3 q hq (by omega)
          rw [hql] at j1 j2
          have := (i1.ge x hx j1).2
          refine ⟨x, hx, hne, ?_⟩
          show (List.foldl (jacStep out) out g.rules).getD x 0 = _
          omega
    obtain ⟨y, hy, h1, h2⟩ := key _ x rfl hx hne
    exact ⟨y, List.mem_range.2 hy, by simpa using h1, by simpa using h2⟩
  · refine .inl ?_
    unfold wrongJ
    rw [List.countP_eq_zero]
    intro x hx
    have hx := List.mem_range.1 hx
    simp only [decide_eq_true_eq]
    exact fun hne => hw ⟨x, hx, hne⟩
theorem JacI.init {g : Gram} {n : Nat} {L : List Int} (h : LFix g n L) : JacI n L (lenInit n) :=
  ⟨by simp [lenInit], fun x hx => by simp [lenInit, List.getD_eq_getElem?_getD, hx], fun x hx h0 => by simp [lenInit, List.getD_eq_getElem?_getD, hx] at h0⟩
theorem jac_iter {g : Gram} {n : Nat} {L : List Int} (h : LFix g n L) (hr : ∀ q ∈ g.rules, q.left.toNat < n ∧ ∀ s ∈ q.right, s.term = false → s.n.toNat < n) : ∀ k, JacI n L (jacIter g.rules k (lenInit n)) ∧ wrongJ n L (jacIter g.rules k (lenInit n)) ≤ n - k
  | 0 => ⟨JacI.init h, by
      unfold wrongJ
      have := List.countP_le_length (p := fun x => decide ((jacIter g.rules 0 (lenInit n)).getD x 0 ≠ L.getD x 0)) (l := List.range n)
      rw [List.length_range] at this
      omega⟩
  | k + 1 => by
    obtain ⟨h1, h2⟩ := jac_iter h hr k
    obtain ⟨j1, j2, j3⟩ := jac_less h hr h1
    refine ⟨j1, ?_⟩
    show wrongJ n L (jacRound g.rules (jacIter g.rules k (lenInit n))) ≤ _
    omega
/-- n rounds of the reference end in the program's table. -/
theorem jac_end {g : Gram} {n : Nat} {L : List Int} (h : LFix g n L) (hr : ∀ q ∈ g.rules, q.left.toNat < n ∧ ∀ s ∈ q.right, s.term = false → s.n.toNat < n) : jacIter g.rules n (lenInit n) = L := by
  obtain ⟨h1, h2⟩ := jac_iter h hr n
  have h3 : wrongJ n L (jacIter g.rules n (lenInit n)) = 0 := by omega
  unfold wrongJ at h3
  rw [List.countP_eq_zero] at h3
  apply List.ext_getElem?
  intro i
  rcases Nat.lt_or_ge i n with hi | hi
  · have h4 := h3 i (List.mem_range.2 hi)
    simp only [decide_eq_true_eq, ne_eq, Classical.not_not] at h4
    have e1 := h1.len
    have e2 := h.shape.len
    rw [List.getD_eq_getElem?_getD, List.getD_eq_getElem?_getD, List.getElem?_eq_getElem (by omega), List.getElem?_eq_getElem (by omega)] at h4
    rw [List.getElem?_eq_getElem (by omega), List.getElem?_eq_getElem (by omega)]
    simpa using h4
  · rw [List.getElem?_eq_none (by rw [h1.len]; exact hi), List.getElem?_eq_none (by rw [h.shape.len]; exact hi)]
end Go.Proofs.YtjdojogjogenkaaDoor

/- Pairs of ints ([2]int) read. -/
namespace Go.Proofs.YtjdojogjogenkaaDoor
open Go.RowKit
set_option linter.unusedVariables false
instance instDatPair : Dat (Int × Int) where
  size := 2
  wraps := true
  rd _ _ n cs := cs = [.int .i64 n.1, .int .i64 n.2] ∧ I64 n.1 ∧ I64 n.2
  len h := by rw [h.1]; rfl
  pos := by decide
  flat h := by simp at h
  one h := by rw [h.1]; intro u hu; simp at hu; rcases hu with rfl | rfl <;> rfl
  keep _ _ h := h
theorem infoPair : (Tryd.prog.info? 111).map (fun i => (i.zero, i.size, i.bytes)) = some (some (.agg #[.int .i64 0, .int .i64 0]), 2, 16) := by kernel_rfl
theorem elemPair : ElemT Tryd.prog (Int × Int) 108 111 16 := by obtain ⟨i, h1, h2, h3, h4⟩ := info_parts infoPair; exact ⟨i, _, Tryd.underlying108, h1, h2, h3, h4, rfl⟩
theorem Els.pair {w : World} {S : Nat → Prop} {A : Option Addr} {k : Nat} {xs : List (Int × Int)} {x : Int × Int} (h : Els w S xs A) (hk : xs[k]? = some x) :
    ∃ b o, A = some ⟨b, o, none⟩ ∧ S b ∧ b < w.heap.size ∧ (I64 x.1 ∧ I64 x.2) ∧ w.cell? ⟨b, o + k * 2, none⟩ = some (.int .i64 x.1) ∧ w.cell? ⟨b, o + k * 2 + 1, none⟩ = some (.int .i64 x.2) := by
  obtain ⟨b, o, cs, hA, hS, hb, ⟨rfl, h1⟩, hc⟩ := h.at_ hk
  exact ⟨b, o, hA, hS, hb, h1, hc.c0, hc.c1⟩
end Go.Proofs.YtjdojogjogenkaaDoor

/- Trees by their kids; the words of kids. No program is named here. -/
namespace Go.Proofs.YtjdojogjogenkaaDoor
open Go.RowKit
set_option linter.unusedVariables false

mutual
theorem Tree.ind {P : Tree → Prop} (h : ∀ r t ks, (∀ k ∈ ks, P k) → P ⟨r, t, ks⟩) : ∀ t, P t
  | ⟨r, t, ks⟩ => h r t ks (Tree.inds h ks)
theorem Tree.inds {P : Tree → Prop} (h : ∀ r t ks, (∀ k ∈ ks, P k) → P ⟨r, t, ks⟩) : ∀ ks : List Tree, ∀ k ∈ ks, P k
  | [], k, hk => by simp at hk
  | x :: xs, k, hk => by
    rcases List.mem_cons.1 hk with e | e
    · exact e ▸ Tree.ind h x
    · exact Tree.inds h xs k e
end
theorem yields_take {ks : List Tree} {m : Nat} {k : Tree} (h : ks[m]? = some k) : yields (ks.take (m + 1)) = yields (ks.take m) ++ yieldT k := by
  have e : ∀ (a b : List Tree), yields (a ++ b) = yields a ++ yields b := by
    intro a b
    induction a with
    | nil => rfl
    | cons x a ih => simp only [List.cons_append, yields, ih, List.append_assoc]
  rw [take_snoc h, e]
  simp [yields]
theorem yields_drop (ks : List Tree) (m : Nat) : yields ks = yields (ks.take m) ++ yields (ks.drop m) := by
  have e : ∀ (a b : List Tree), yields (a ++ b) = yields a ++ yields b := by
    intro a b
    induction a with
    | nil => rfl
    | cons x a ih => simp only [List.cons_append, yields, ih, List.append_assoc]
  rw [← e, List.take_append_drop]

end Go.Proofs.YtjdojogjogenkaaDoor

