/- Plain facts and definitions of this proof, of several texts joined: Short, IntCells, StabP, SortKLay, CmpL, Take, CntV, UsefulP, TrimP, Bcells, MkBools. -/
import Derived.Test.YtnlpeiffbnlncaaDoorQp1
import Derived.StillTailTactics
import Derived.Laws.CopyOwn
import Derived.Deep.OwnRows
import Derived.IntWalk
import Derived.Laws.EntriesVeiled
import Derived.BigRegion
import Derived.Shelf.SlSortCmp.WholeK
import Derived.Test.YtnlpeiffbnlncaaDoorChecked
/- Steps of a region that draws its order, with their checks by themselves. No program is named here. -/
namespace Go.Proofs.YtnlpeiffbnlncaaDoor
open Go.RowKit
set_option linter.unusedVariables false

theorem sA {α : Type} {i : Nat} {a : α} {l : List α} : l.toArray.setIfInBounds i a = (l.set i a).toArray := List.setIfInBounds_toArray ..
theorem sB {α : Type} {x a : α} {l : List α} : (x :: l).set 0 a = a :: l := rfl
theorem sC {α : Type} {x a : α} {n : Nat} {l : List α} : (x :: l).set (n + 1) a = x :: l.set n a := rfl
section
variable {P : Program} {l : List Oper} {Q : Exit → Act → World → Prop} {md : Region.Mode} {S : World → Prop}
theorem tk (i : Nat) {oi : Oper} {rest : List Oper} {v : Value} {fuel : Nat} {listed : Array Bool} {a : Act} {w : World} (hi : l.drop i = oi :: rest)
    (hy : ∀ w, S w → (execOp a.eval oi).run P w = .ok (.value v) w)
    (h : wpAnyH P md l.toArray Q S fuel (listed.setIfInBounds i true) (a.put oi.dst v) w)
    (hs : Region.noSelect l.toArray = true := by kernel_rfl) (hf : Region.free md l.toArray listed i = true := by kernel_rfl) (hr : (Region.ready md l.toArray listed).contains i = true := by kernel_rfl)
    (hQ : ∀ c a w, Q (.panic c) (a.put oi.dst v) w → Q (.panic c) a w := by exact fun _ _ _ h => h) (hw : Region.wanted oi (yielded l.toArray a.tmps) = true := by rfl) (hS : S w := by assumption) : wpAnyH P md l.toArray Q S (fuel + 1) listed a w :=
  take_run hi hs hf hr hQ hw hy hS h
theorem tb (i : Nat) {oi : Oper} {rest : List Oper} {fuel : Nat} {listed : Array Bool} {a : Act} {w : World} (hi : l.drop i = oi :: rest)
    (h : wpAnyH P md l.toArray Q S fuel (listed.setIfInBounds i true) (a.put oi.dst undef) w)
    (hs : Region.noSelect l.toArray = true := by kernel_rfl) (hf : Region.free md l.toArray listed i = true := by kernel_rfl) (hr : (Region.ready md l.toArray listed).contains i = true := by kernel_rfl)
    (hQ : ∀ c a w, Q (.panic c) (a.put oi.dst undef) w → Q (.panic c) a w := by exact fun _ _ _ h => h) (hw : Region.wanted oi (yielded l.toArray a.tmps) = false := by rfl) (hS : S w := by assumption) : wpAnyH P md l.toArray Q S (fuel + 1) listed a w :=
  take_bar hi hs hf hr hQ hw hS h
end
section
variable {P : Program} {l : List Oper} {Q : Exit → Act → World → Prop} {md : Region.Mode} {S : World → Prop} {d : Nat}
theorem sk (i : Nat) {oi : Oper} {rest : List Oper} {v : Value} {fuel : Nat} {listed : Array Bool} {a : Act} {w : World} (hi : l.drop i = oi :: rest)
    (hy : ∀ w, (execOp a.eval oi).run P w = .ok (.value v) w)
    (h : wpAnyD P md l.toArray Q S d fuel (listed.setIfInBounds i true) (a.put oi.dst v) w)
    (hs : Region.noSelect l.toArray = true := by kernel_rfl) (hf : Region.free md l.toArray listed i = true := by kernel_rfl) (hr : (Region.ready md l.toArray listed).contains i = true := by kernel_rfl) (hid : (i != d) = true := by kernel_rfl)
    (hQ : ∀ c a w, Q (.panic c) (a.put oi.dst v) w → Q (.panic c) a w := by exact fun _ _ _ h => h) (hw : Region.wanted oi (yielded l.toArray a.tmps) = true := by rfl) (hS : S w := by assumption) : wpAnyD P md l.toArray Q S d (fuel + 1) listed a w :=
  st_pure hi hs hf hr hid hQ hw hy (.inl hS) h
theorem sl (i : Nat) {oi : Oper} {rest : List Oper} {v : Value} {fuel : Nat} {listed : Array Bool} {a : Act} {w : World} (hi : l.drop i = oi :: rest)
    (hy : ∀ w, S w → (execOp a.eval oi).run P w = .ok (.value v) w)
    (h : wpAnyD P md l.toArray Q S d fuel (listed.setIfInBounds i true) (a.put oi.dst v) w)
    (hs : Region.noSelect l.toArray = true := by kernel_rfl) (hf : Region.free md l.toArray listed i = true := by kernel_rfl) (hr : (Region.ready md l.toArray listed).contains i = true := by kernel_rfl) (hid : (i != d && waitsB md l.toArray d i && !listed.getD d false) = true := by kernel_rfl)
    (hQ : ∀ c a w, Q (.panic c) (a.put oi.dst v) w → Q (.panic c) a w := by exact fun _ _ _ h => h) (hw : Region.wanted oi (yielded l.toArray a.tmps) = true := by rfl) (hS : S w := by assumption) : wpAnyD P md l.toArray Q S d (fuel + 1) listed a w :=
  st_run hi hs hf hr hid hQ hw hy hS h
theorem sbar (i : Nat) {oi : Oper} {rest : List Oper} {fuel : Nat} {listed : Array Bool} {a : Act} {w : World} (hi : l.drop i = oi :: rest)
    (h : wpAnyD P md l.toArray Q S d fuel (listed.setIfInBounds i true) (a.put oi.dst undef) w)
    (hs : Region.noSelect l.toArray = true := by kernel_rfl) (hf : Region.free md l.toArray listed i = true := by kernel_rfl) (hr : (Region.ready md l.toArray listed).contains i = true := by kernel_rfl) (hid : (i != d) = true := by kernel_rfl)
    (hQ : ∀ c a w, Q (.panic c) (a.put oi.dst undef) w → Q (.panic c) a w := by exact fun _ _ _ h => h) (hw : Region.wanted oi (yielded l.toArray a.tmps) = false := by rfl) (hS : S w := by assumption) : wpAnyD P md l.toArray Q S d (fuel + 1) listed a w :=
  st_bar hi hs hf hr hid hQ hw (.inl hS) h
end
end Go.Proofs.YtnlpeiffbnlncaaDoor

/- Rows of numbers that are known whole; made. -/
namespace Go.Proofs.YtnlpeiffbnlncaaDoor
open Go.RowKit
set_option linter.unusedVariables false

def icells (l : List Int) : Array Value := (l.map fun x => Value.int .i64 x).toArray
theorem icells_size (l : List Int) : (icells l).size = l.length := by simp [icells]
theorem icells_get {l : List Int} {i : Nat} {x : Int} (h : l[i]? = some x) : (icells l)[i]? = some (.int .i64 x) := by simp [icells, h]
theorem icells_set (l : List Int) (i : Nat) (x : Int) : (icells l).setIfInBounds i (.int .i64 x) = icells (l.set i x) := by
  apply Array.ext'
  simp [icells, List.map_set]
theorem icells_made (n : Nat) : madeCells #[.int .i64 0] n = icells (List.replicate n 0) := by
  apply Array.ext'
  simp only [madeCells, icells, Array.toList_map, Array.toList_range, List.map_replicate]
  apply List.ext_getElem
  · simp
  · intro i h1 h2
    simp [Nat.mod_one]
theorem els_icells {w : World} {S : Nat → Prop} {g : Nat} {t : TypeId} {ms : List Int} (hb : Blk' w g t (icells ms)) (h : ∀ v ∈ ms, I64 v) (hS : S g) : Els w S ms (some ⟨g, 0, none⟩) :=
  fun _ => ⟨g, 0, rfl, hS, fun i x hi => ⟨[.int .i64 x], ⟨rfl, h x (List.mem_of_getElem? hi)⟩, fun j u hu => by
    match j, hu with
    | 0, hu =>
      simp at hu; subst hu
      have e : 0 + i * Dat.size Int + 0 = i := by show 0 + i * 1 + 0 = i; omega
      rw [e, hb.cell]
      exact icells_get hi⟩⟩
theorem mkInts (n : Nat) (hn : n ≤ 1000000) (W : World) : (Instr.makeSlice 22 (.int .i64 (n : Int)) (.int .i64 (n : Int))).run Tryd.prog W = .ok (.slice (some ⟨W.heap.size, 0, none⟩) n n) (W.alloc (.cells (icells (List.replicate n 0)) 3)) := by
  rw [← icells_made]
  exact run_make_row' (P := Tryd.prog) 22 3 (.int .i64 0) 8 Tryd.underlying22 infoInt rfl .i64 .i64 n (by omega) (by omega) W

end Go.Proofs.YtnlpeiffbnlncaaDoor

/- A row of packs (a rule and a slice of kids each) at the head of a block: its elements read, two changed. -/
namespace Go.Proofs.YtnlpeiffbnlncaaDoor
open Go.RowKit
set_option linter.unusedVariables false

structure PkV where
  r : Int
  a : Option Addr
  n : Nat
  c : Nat
def PkV.v (p : PkV) : Value := .agg #[.int .i64 p.r, .slice p.a p.n p.c]
/-- A row of packs at the head of a block. -/
def RowF (w : World) (g : Nat) (ps : List PkV) : Prop := ∃ cur, Blk' w g 128 cur ∧ ∀ (i : Nat) (p : PkV), ps[i]? = some p → cur[i * 2]? = some (.int .i64 p.r) ∧ cur[i * 2 + 1]? = some (.slice p.a p.n p.c)
theorem RowF.cell0 {w : World} {g : Nat} {ps : List PkV} (h : RowF w g ps) {i : Nat} {p : PkV} (hx : ps[i]? = some p) : w.cell? ⟨g, i * 2, none⟩ = some (.int .i64 p.r) := by
  obtain ⟨cur, hb, hc⟩ := h
  rw [hb.cell]; exact (hc i p hx).1
theorem RowF.cell1 {w : World} {g : Nat} {ps : List PkV} (h : RowF w g ps) {i : Nat} {p : PkV} (hx : ps[i]? = some p) : w.cell? ⟨g, i * 2 + 1, none⟩ = some (.slice p.a p.n p.c) := by
  obtain ⟨cur, hb, hc⟩ := h
  rw [hb.cell]; exact (hc i p hx).2
theorem RowF.frozen {w : World} {g : Nat} {ps : List PkV} (h : RowF w g ps) (i : Nat) : w.frozen? ⟨g, i, none⟩ = false := by
  obtain ⟨cur, hb, _⟩ := h
  exact hb.frozen i
theorem RowF.lt {w : World} {g : Nat} {ps : List PkV} (h : RowF w g ps) : g < w.heap.size := by
  obtain ⟨cur, hb, _⟩ := h
  exact hb.lt
theorem RowF.set_ {w : World} {g : Nat} {ps : List PkV} (h : RowF w g ps) (i : Nat) (p : PkV) : RowF ((w.setCell ⟨g, i * 2, none⟩ (.int .i64 p.r)).setCell ⟨g, i * 2 + 1, none⟩ (.slice p.a p.n p.c)) g (ps.set i p) := by
  obtain ⟨cur, hb, hc⟩ := h
  refine ⟨_, (hb.set_ (i * 2) _).set_ (i * 2 + 1) _, fun j x hx => ?_⟩
  by_cases e : i = j
  · subst e
    have hl : i < ps.length := by have := (List.getElem?_eq_some_iff.1 hx).1; simpa using this
    rw [List.getElem?_set_self hl] at hx
    injection hx with hx
    subst hx
    have h2 := hc i ps[i] (List.getElem?_eq_getElem hl)
    have h3 := (Array.getElem?_eq_some_iff.1 h2.1).1
    have h4 := (Array.getElem?_eq_some_iff.1 h2.2).1
    refine ⟨?_, ?_⟩
    · simp [Array.getElem?_setIfInBounds, h3]
    · simp [Array.getElem?_setIfInBounds, h4]
  · rw [List.getElem?_set_ne e] at hx
    obtain ⟨h1, h2⟩ := hc j x hx
    refine ⟨?_, ?_⟩
    · rw [Array.getElem?_setIfInBounds_ne (by omega), Array.getElem?_setIfInBounds_ne (by omega)]; exact h1
    · rw [Array.getElem?_setIfInBounds_ne (by omega), Array.getElem?_setIfInBounds_ne (by omega)]; exact h2
theorem RowF.kept {w w' : World} {X : Nat → Prop} {g : Nat} {ps : List PkV} (h : RowF w g ps) (k : Kept X w w') (hx : ¬ X g) : RowF w' g ps := by
  obtain ⟨cur, hb, hc⟩ := h
  exact ⟨cur, hb.kept k hx, hc⟩
theorem RowF.below {w w' : World} {g : Nat} {ps : List PkV} (h : RowF w g ps) (k : Below w.heap.size w w') : RowF w' g ps := by
  obtain ⟨cur, hb, hc⟩ := h
  exact ⟨cur, hb.below k hb.lt, hc⟩
theorem fswap_perm {ys : List PkV} {i j : Nat} {a b : PkV} (ha : ys[i]? = some a) (hb : ys[j]? = some b) : ((ys.set i b).set j a).Perm ys := by
  obtain ⟨h1, rfl⟩ := List.getElem?_eq_some_iff.1 ha
  obtain ⟨h2, rfl⟩ := List.getElem?_eq_some_iff.1 hb
  exact List.set_set_perm h1 h2
theorem pair_kept {w w' : World} {g i : Nat} {u v : Value} (h : Kept (fun b => b = g) w w') : Kept (fun b => b = g) w ((w'.setCell ⟨g, i * 2, none⟩ u).setCell ⟨g, i * 2 + 1, none⟩ v) :=
  (h.setCell (p := ⟨g, i * 2, none⟩) (.inl rfl) _).setCell (p := ⟨g, i * 2 + 1, none⟩) (.inl rfl) _
/-- What a function that only permutes the row gives. -/
def RetPm (w : World) (g : Nat) (ps : List PkV) (e : Ending) (w' : World) : Prop := e = .returned (.tuple #[]) ∧ ∃ qs : List PkV, RowF w' g qs ∧ qs.Perm ps ∧ Kept (fun b => b = g) w w'
/-- What is wanted of the comparison. -/
def CmpOk (w0 : World) (g : Nat) (ps : List PkV) : Prop :=
  ∀ p ∈ ps, ∀ q ∈ ps, ∀ W : World, Kept (fun b => b = g) w0 W → Calls Tryd.prog 103 #[p.v, q.v] W fun e w' => (∃ k : Int, e = .returned (.int .i64 k)) ∧ Below W.heap.size W w'
theorem CmpOk.perm {w0 w1 : World} {g : Nat} {ps qs : List PkV} (h : CmpOk w0 g ps) (hp : qs.Perm ps) (hk : Kept (fun b => b = g) w0 w1) : CmpOk w1 g qs :=
  fun p hp1 q hq W hW => h p (hp.subset hp1) q (hp.subset hq) W (hk.trans hW)
theorem RetPm.refl {w : World} {g : Nat} {ps : List PkV} (h : RowF w g ps) : RetPm w g ps (.returned (.tuple #[])) w := ⟨rfl, ps, h, List.Perm.refl _, Kept.refl _ _⟩
end Go.Proofs.YtnlpeiffbnlncaaDoor

/- slices.SortFunc at nodes of a forest, laid for the shelf's contract. -/
namespace Go.Proofs.YtnlpeiffbnlncaaDoor
open Go.Shelf

def sortK_ren : Go.Shelf.Ren := ⟨fun | 6 => 100 | 15 => 124 | 14 => 123 | 28 => 138 | 29 => 139 | 20 => 130 | 21 => 131 | 22 => 132 | 23 => 133 | 24 => 134 | 25 => 135 | 26 => 136 | 27 => 137 | 46 => 142 | 47 => 143 | 48 => 144 | 49 => 145 | 50 => 146 | 57 => 148 | n => n, fun | 22 => 164 | 24 => 160 | 25 => 171 | 3 => 3 | 39 => 181 | 0 => 0 | 53 => 161 | 55 => 202 | 4 => 4 | 46 => 208 | 45 => 207 | 50 => 191 | 5 => 5 | 9 => 9 | 66 => 216 | 70 => 85 | 76 => 221 | 77 => 222 | n => n, fun | n => n⟩
theorem sortK : Go.Proofs.SlLaysF0.n6 Tryd.prog sortK_ren := {
  mixed := by kernel_rfl,
  f6 := ⟨Tryd.f100.name, by decide, Tryd.func100.trans (congrArg some (by kernel_rfl))⟩,
  f14 := ⟨Tryd.f123.name, by decide, Tryd.func123.trans (congrArg some (by kernel_rfl))⟩,
  f15 := Tryd.func124.trans (congrArg some (by kernel_rfl)),
  f20 := ⟨Tryd.f130.name, by decide, Tryd.func130.trans (congrArg some (by kernel_rfl))⟩,
  f21 := ⟨Tryd.f131.name, by decide, Tryd.func131.trans (congrArg some (by kernel_rfl))⟩,
  f22 := ⟨Tryd.f132.name, by decide, Tryd.func132.trans (congrArg some (by kernel_rfl))⟩,
  f23 := ⟨Tryd.f133.name, by decide, Tryd.func133.trans (congrArg some (by kernel_rfl))⟩,
  f24 := ⟨Tryd.f134.name, by decide, Tryd.func134.trans (congrArg some (by kernel_rfl))⟩,
  f25 := ⟨Tryd.f135.name, by decide, Tryd.func135.trans (congrArg some (by kernel_rfl))⟩,
  f26 := ⟨Tryd.f136.name, by decide, Tryd.func136.trans (congrArg some (by kernel_rfl))⟩,
  f27 := ⟨Tryd.f137.name, by decide, Tryd.func137.trans (congrArg some (by kernel_rfl))⟩,
  f28 := Tryd.func138.trans (congrArg some (by kernel_rfl)),
  f29 := Tryd.func139.trans (congrArg some (by kernel_rfl)),
  f46 := ⟨Tryd.f142.name, by decide, Tryd.func142.trans (congrArg some (by kernel_rfl))⟩,
  f47 := Tryd.func143.trans (congrArg some (by kernel_rfl)),
  f48 := Tryd.func144.trans (congrArg some (by kernel_rfl)),
  f49 := ⟨Tryd.f145.name, by decide, Tryd.func145.trans (congrArg some (by kernel_rfl))⟩,
  f50 := ⟨Tryd.f146.name, by decide, Tryd.func146.trans (congrArg some (by kernel_rfl))⟩,
  f57 := ⟨Tryd.f148.name, by decide, Tryd.func148.trans (congrArg some (by kernel_rfl))⟩,
  t0 := Tryd.underlying0,
  a0 := Tryd.isAgg0,
  z0 := Tryd.sizeOf0,
  v0 := Tryd.zeroValue0,
  t3 := Tryd.underlying3,
  a3 := Tryd.isAgg3,
  z3 := Tryd.sizeOf3,
  v3 := Tryd.zeroValue3,
  t4 := Tryd.underlying4,
  a4 := Tryd.isAgg4,
  z4 := Tryd.sizeOf4,
  v4 := Tryd.zeroValue4,
  t5 := Tryd.underlying5,
  a5 := Tryd.isAgg5,
  z5 := Tryd.sizeOf5,
  v5 := Tryd.zeroValue5,
  t9 := Tryd.underlying9,
  a9 := Tryd.isAgg9,
  z9 := Tryd.sizeOf9,
  v9 := Tryd.zeroValue9,
  t22 := Tryd.underlying164,
  a22 := Tryd.isAgg164,
  z22 := Tryd.sizeOf164,
  v22 := Tryd.zeroValue164,
  t25 := Tryd.underlying171,
  a25 := Tryd.isAgg171,
  z25 := Tryd.sizeOf171,
  v25 := Tryd.zeroValue171,
  t39 := Tryd.underlying181,
  a39 := Tryd.isAgg181,
  z39 := Tryd.sizeOf181,
  v39 := Tryd.zeroValue181,
  t45 := Tryd.underlying207,
  a45 := Tryd.isAgg207,
  z45 := Tryd.sizeOf207,
  v45 := Tryd.zeroValue207,
  t46 := Tryd.underlying208,
  a46 := Tryd.isAgg208,
  z46 := Tryd.sizeOf208,
  v46 := Tryd.zeroValue208,
  t50 := Tryd.underlying191,
  a50 := Tryd.isAgg191,
  z50 := Tryd.sizeOf191,
  v50 := Tryd.zeroValue191,
  t53 := Tryd.underlying161,
  a53 := Tryd.isAgg161,
  z53 := Tryd.sizeOf161,
  v53 := Tryd.zeroValue161,
  t55 := Tryd.underlying202,
  a55 := Tryd.isAgg202,
  z55 := Tryd.sizeOf202,
  v55 := Tryd.zeroValue202,
  t66 := Tryd.underlying216,
  a66 := Tryd.isAgg216,
  z66 := Tryd.sizeOf216,
  v66 := Tryd.zeroValue216,
  t70 := Tryd.underlying85,
  a70 := Tryd.isAgg85,
  z70 := Tryd.sizeOf85,
  v70 := Tryd.zeroValue85,
  t76 := Tryd.underlying221,
  a76 := Tryd.isAgg221,
  z76 := Tryd.sizeOf221,
  v76 := Tryd.zeroValue221,
  t77 := Tryd.underlying222,
  a77 := Tryd.isAgg222,
  z77 := Tryd.sizeOf222,
  v77 := Tryd.zeroValue222 }
end Go.Proofs.YtnlpeiffbnlncaaDoor

/- Plain: the order of lists of ints. No program is named here. -/
namespace Go.Proofs.YtnlpeiffbnlncaaDoor
open Go.RowKit
set_option linter.unusedVariables false

def cmpL : List Int → List Int → Int
  | [], [] => 0
  | [], _ :: _ => -1
  | _ :: _, [] => 1
  | x :: xs, y :: ys => if x < y then -1 else if y < x then 1 else cmpL xs ys
end Go.Proofs.YtnlpeiffbnlncaaDoor

/- Lists alike up to a place. -/
namespace Go.Proofs.YtnlpeiffbnlncaaDoor
open Go.RowKit
set_option linter.unusedVariables false

theorem take_ne {α : Type} {xs ys : List α} {k : Nat} {x y : α} (hx : xs[k]? = some x) (hy : ys[k]? = some y) (h : x ≠ y) : xs ≠ ys := by
  rintro rfl; rw [hx] at hy; exact h (by injection hy)
theorem take_eq {α : Type} {xs ys : List α} {k : Nat} {x y : α} (hx : xs[k]? = some x) (hy : ys[k]? = some y) (h : x = y) (ht : xs.take k = ys.take k) : xs.take (k + 1) = ys.take (k + 1) := by
  rw [take_snoc hx, take_snoc hy, ht, h]
theorem take_all {α : Type} {xs ys : List α} {k : Nat} (hl : xs.length = ys.length) (hk : xs.length ≤ k) (ht : xs.take k = ys.take k) : xs = ys := by
  rwa [List.take_of_length_le hk, List.take_of_length_le (by omega)] at ht
end Go.Proofs.YtnlpeiffbnlncaaDoor

/- The plain law of core.Count's visit: what the rows of states and counts are on the way. No program is named here. -/
namespace Go.Proofs.YtnlpeiffbnlncaaDoor
set_option linter.unusedVariables false

def gd (l : List Int) (u : Nat) : Int := l.getD u 0
theorem gd_set (l : List Int) (i : Nat) (x : Int) (j : Nat) (hi : i < l.length) : gd (l.set i x) j = if j = i then x else gd l j := by
  unfold gd
  rw [List.getD_eq_getElem?_getD, List.getElem?_set, List.getD_eq_getElem?_getD]
  by_cases e : i = j
  · subst e; simp [hi]
  · rw [if_neg e, if_neg (fun h => e h.symm)]
theorem gd_get {l : List Int} {i : Nat} {x : Int} (h : l[i]? = some x) : gd l i = x := by
  unfold gd
  rw [List.getD_eq_getElem?_getD, h]
  rfl
theorem gd_some {l : List Int} {i : Nat} (h : i < l.length) : l[i]? = some (gd l i) := by
  unfold gd
  rw [List.getD_eq_getElem?_getD, List.getElem?_eq_getElem h]
  rfl
def zeros (l : List Int) : Nat := (l.filter fun x => decide (x = 0)).length
theorem zeros_set : ∀ (l : List Int) (i : Nat) (x : Int), gd l i = 0 → i < l.length → x ≠ 0 → zeros (l.set i x) < zeros l
  | [], i, x, _, h, _ => by simp at h
  | a :: l, 0, x, h, _, hx => by
    have h : a = 0 := h
    subst h
    simp [zeros, hx]
  | a :: l, i + 1, x, h, hl, hx => by
    have ih := zeros_set l i x h (by simpa using hl) hx
    by_cases ha : a = 0
    · simp [zeros, ha] at ih ⊢; omega
    · simp [zeros, ha] at ih ⊢; exact ih
theorem zeros_le : ∀ (l : List Int) (i : Nat) (x : Int), x ≠ 0 → zeros (l.set i x) ≤ zeros l
  | [], i, x, _ => by simp
  | a :: l, 0, x, hx => by
    by_cases ha : a = 0
    · simp [zeros, ha, hx]
    · simp [zeros, ha, hx]
  | a :: l, i + 1, x, hx => by
    have ih := zeros_le l i x hx
    by_cases ha : a = 0
    · simp [zeros, ha] at ih ⊢; omega
    · simp [zeros, ha] at ih ⊢; exact ih
def cnF (cn : List Int) : Nat → Nat := fun k => (gd cn k).toNat
theorem prodM_congr {f f' : Nat → Nat} : ∀ (l : List Int) (x : Nat), (∀ k ∈ l, f k.toNat = f' k.toNat) → prodM f x l = prodM f' x l
  | [], x, _ => rfl
  | k :: l, x, h => by
    show prodM f (min (x * f k.toNat) lim) l = prodM f' (min (x * f' k.toNat) lim) l
    rw [h k (by simp), prodM_congr l _ (fun j hj => h j (by simp [hj]))]
theorem sumM_congr {f f' : Nat → Nat} : ∀ (J : List (List Int)) (x : Nat), (∀ l ∈ J, ∀ k ∈ l, f k.toNat = f' k.toNat) → sumM f x J = sumM f' x J
  | [], x, _ => rfl
  | l :: J, x, h => by
    show sumM f (min (x + prodM f 1 l) lim) J = sumM f' (min (x + prodM f' 1 l) lim) J
    rw [prodM_congr l 1 (h l (by simp)), sumM_congr J _ (fun j hj => h j (by simp [hj]))]
theorem prodM_snoc (f : Nat → Nat) (x : Nat) (l : List Int) (k : Int) : prodM f x (l ++ [k]) = min (prodM f x l * f k.toNat) lim := by
  unfold prodM
  rw [List.foldl_append]
  rfl
theorem sumM_snoc (f : Nat → Nat) (x : Nat) (J : List (List Int)) (l : List Int) : sumM f x (J ++ [l]) = min (sumM f x J + prodM f 1 l) lim := by
  unfold sumM
  rw [List.foldl_append]
  rfl
theorem prodM_le (f : Nat → Nat) (l : List Int) : prodM f 1 l ≤ lim := by
  have key : ∀ (l : List Int) (x : Nat), x ≤ lim → prodM f x l ≤ lim := by
    intro l
    induction l with
    | nil => intro x h; exact h
    | cons k l ih => intro x _; exact ih _ (Nat.min_le_right _ _)
  exact key l 1 (by decide)
theorem sumM_le (f : Nat → Nat) (x : Nat) (J : List (List Int)) (hx : x ≤ lim) : sumM f x J ≤ lim := by
  induction J generalizing x with
  | nil => exact hx
  | cons l J ih => exact ih _ (Nat.min_le_right _ _)

/-- The rows: 0 not yet, 1 begun, 2 done. -/
structure StI (F : List FNode) (st cn : List Int) : Prop where
  sl : st.length = F.length
  cl : cn.length = F.length
  at_ : ∀ u, u < F.length → (gd st u = 0 ∧ gd cn u = 0 ∨ gd st u = 1 ∨ gd st u = 2 ∧ Cn F u (gd cn u).toNat) ∧ 0 ≤ gd cn u ∧ gd cn u ≤ 1000000000
/-- What a visit that ends well changes. -/
structure Mv (F : List FNode) (st cn st' cn' : List Int) : Prop where
  ok : StI F st' cn'
  one : ∀ u, u < F.length → (gd st' u = 1 ↔ gd st u = 1)
  two : ∀ u, u < F.length → gd st u = 2 → gd st' u = 2 ∧ gd cn' u = gd cn u
  onec : ∀ u, u < F.length → gd st u = 1 → gd cn' u = gd cn u
  zer : zeros st' ≤ zeros st
theorem Mv.refl {F : List FNode} {st cn : List Int} (h : StI F st cn) : Mv F st cn st cn := ⟨h, fun _ _ => Iff.rfl, fun _ _ h => ⟨h, rfl⟩, fun _ _ _ => rfl, Nat.le_refl _⟩
/-- Within a visit of v: the packs J are done. -/
structure InV (F : List FNode) (st cn : List Int) (v init : Nat) (J : List (List Int)) (st' cn' : List Int) : Prop where
  ok : StI F st' cn'
  one : ∀ u, u < F.length → (gd st' u = 1 ↔ gd st u = 1 ∨ u = v)
  two : ∀ u, u < F.length → gd st u = 2 → gd st' u = 2 ∧ gd cn' u = gd cn u
  onec : ∀ u, u < F.length → gd st u = 1 → gd cn' u = gd cn u
  zer : zeros st' < zeros st
  cnv : gd cn' v = ((sumM (cnF cn') init J : Nat) : Int)
  done : ∀ l ∈ J, ∀ k ∈ l, gd st' k.toNat = 2
  v0 : gd st v = 0
  vl : v < F.length
theorem InV.begin {F : List FNode} {st cn : List Int} (h : StI F st cn) {v : Nat} (hv : v < F.length) (h0 : gd st v = 0) (t : Bool) : InV F st cn v (if t then 1 else 0) [] (st.set v 1) (if t then cn.set v 1 else cn) := by
  have hs : v < st.length := by rw [h.sl]; exact hv
  have hc : v < cn.length := by rw [h.cl]; exact hv
  have hz : gd cn v = 0 := by
    rcases (h.at_ v hv).1 with h1 | h1 | h1
    · exact h1.2
    · omega
    · omega
  have e1 : ∀ u, gd (st.set v 1) u = if u = v then 1 else gd st u := fun u => gd_set st v 1 u hs
  have e2 : ∀ u, gd (if t then cn.set v 1 else cn) u = if u = v then (if t then 1 else 0) else gd cn u := fun u => by
    cases t
    · simp only [Bool.false_eq_true, if_false]
      split
      · rename_i e; rw [e, hz]
      · rfl
    · simp only [if_true]
      exact gd_set cn v 1 u hc
  refine ⟨⟨by rw [List.length_set]; exact h.sl, by cases t <;> simp [h.cl], fun u hu => ?_⟩, fun u hu => ?_, fun u hu h2 => ?_, fun u hu h2 => ?_, zeros_set st v 1 h0 hs (by decide), ?_, by simp, h0, hv⟩
  · rw [e1, e2]
    by_cases e : u = v
    · rw [if_pos e, if_pos e]
      cases t <;> simp
    · rw [if_neg e, if_neg e]; exact h.at_ u hu
  · rw [e1]
    by_cases e : u = v
    · simp [e]
    · simp [e]
  · rw [e1, e2]
    have e : u ≠ v := fun e => by rw [e, h0] at h2; cases h2
    rw [if_neg e, if_neg e]; exact ⟨h2, rfl⟩
  · rw [e2]
    have e : u ≠ v := fun e => by rw [e, h0] at h2; cases h2
    rw [if_neg e]
  · rw [e2, if_pos rfl]
    cases t <;> rfl
/-- A kid has been visited. -/
theorem InV.kid {F : List FNode} {st cn st1 cn1 st2 cn2 : List Int} {v init : Nat} {J : List (List Int)} (h : InV F st cn v init J st1 cn1) (hk : ∀ l ∈ J, ∀ k ∈ l, k.toNat < F.length) (m : Mv F st1 cn1 st2 cn2) : InV F st cn v init J st2 cn2 := by
  refine ⟨m.ok, fun u hu => (m.one u hu).trans (h.one u hu), fun u hu h2 => ?_, fun u hu h1 => ?_, Nat.lt_of_le_of_lt m.zer h.zer, ?_, fun l hl k hkl => ?_, h.v0, h.vl⟩
  · obtain ⟨a, b⟩ := h.two u hu h2
    obtain ⟨c, d⟩ := m.two u hu a
    exact ⟨c, d.trans b⟩
  · rw [m.onec u hu ((h.one u hu).2 (.inl h1))]; exact h.onec u hu h1
  · rw [m.onec v h.vl ((h.one v h.vl).2 (.inr rfl)), h.cnv]
    rw [sumM_congr J init (fun l hl k hkl => ?_)]
    unfold cnF
    rw [(m.two k.toNat (hk l hl k hkl) (h.done l hl k hkl)).2]
  · exact (m.two k.toNat (hk l hl k hkl) (h.done l hl k hkl)).1
/-- A pack is done. -/
theorem InV.pack {F : List FNode} {st cn st1 cn1 : List Int} {v init : Nat} {J : List (List Int)} (h : InV F st cn v init J st1 cn1) (hk : ∀ l ∈ J, ∀ k ∈ l, k.toNat < F.length) (l : List Int) (hl : ∀ k ∈ l, k.toNat < F.length ∧ gd st1 k.toNat = 2) (x : Int) (hx : x = ((min (sumM (cnF cn1) init J + prodM (cnF cn1) 1 l) lim : Nat) : Int)) : InV F st cn v init (J ++ [l]) st1 (cn1.set v x) := by
  have hc : v < cn1.length := by rw [h.ok.cl]; exact h.vl
  have e2 : ∀ u, gd (cn1.set v x) u = if u = v then x else gd cn1 u := fun u => gd_set cn1 v x u hc
  have hv1 : gd st1 v = 1 := (h.one v h.vl).2 (.inr rfl)
  have hne : ∀ u, gd st1 u = 2 → u ≠ v := fun u h2 e => by rw [e, hv1] at h2; cases h2
  have hcong : ∀ k : Int, gd st1 k.toNat = 2 → cnF (cn1.set v x) k.toNat = cnF cn1 k.toNat := fun k h2 => by
    unfold cnF
    rw [e2, if_neg (hne _ h2)]
  refine ⟨⟨h.ok.sl, by rw [List.length_set]; exact h.ok.cl, fun u hu => ?_⟩, h.one, fun u hu h2 => ?_, fun u hu h1 => ?_, h.zer, ?_, fun l' hl' k hkl => ?_, h.v0, h.vl⟩
  · rw [e2]
    by_cases e : u = v
    · rw [if_pos e]
      refine ⟨.inr (.inl (by rw [e]; exact hv1)), by rw [hx]; omega, by rw [hx]; have : min (sumM (cnF cn1) init J + prodM (cnF cn1) 1 l) lim ≤ lim := Nat.min_le_right _ _; have e3 : lim = 1000000000 := rfl; omega⟩
    · rw [if_neg e]; exact h.ok.at_ u hu
  · obtain ⟨a, b⟩ := h.two u hu h2
    rw [e2, if_neg (hne u a)]
    exact ⟨a, b⟩
  · have e : u ≠ v := fun e => by rw [e, h.v0] at h1; cases h1
    rw [e2, if_neg e]; exact h.onec u hu h1
  · rw [e2, if_pos rfl, sumM_snoc, sumM_congr J init (fun l' hl' k hkl => hcong k (h.done l' hl' k hkl)), prodM_congr l 1 (fun k hkl => hcong k (hl k hkl).2)]
    exact hx
  · rcases List.mem_append.1 hl' with hl' | hl'
    · exact h.done l' hl' k hkl
    · simp at hl'; subst hl'; exact (hl k hkl).2
/-- The node is done. -/
theorem InV.end_ {F : List FNode} {st cn st1 cn1 : List Int} {v : Nat} {nd : FNode} (hnd : F[v]? = some nd) (h : InV F st cn v (if nd.sym.term then 1 else 0) (nd.packs.map (·.kids)) st1 cn1) (hk : ∀ p ∈ nd.packs, ∀ k ∈ p.kids, k.toNat < F.length) : Mv F st cn (st1.set v 2) cn1 ∧ gd (st1.set v 2) v = 2 := by
  have hs : v < st1.length := by rw [h.ok.sl]; exact h.vl
  have e1 : ∀ u, gd (st1.set v 2) u = if u = v then 2 else gd st1 u := fun u => gd_set st1 v 2 u hs
  have hcn : Cn F v (gd cn1 v).toNat := by
    have h1 := Cn.mk v nd (cnF cn1) hnd (fun p hp k hkp => by
      have h2 := h.done p.kids (List.mem_map.2 ⟨p, hp, rfl⟩) k hkp
      rcases (h.ok.at_ k.toNat (hk p hp k hkp)).1 with h3 | h3 | h3
      · omega
      · omega
      · exact h3.2)
    rw [h.cnv, Int.toNat_natCast]
    exact h1
  refine ⟨⟨⟨by rw [List.length_set]; exact h.ok.sl, h.ok.cl, fun u hu => ?_⟩, fun u hu => ?_, fun u hu h2 => ?_, h.onec, Nat.le_trans (zeros_le st1 v 2 (by decide)) (Nat.le_of_lt h.zer)⟩, by rw [e1, if_pos rfl]⟩
  · rw [e1]
    by_cases e : u = v
    · rw [if_pos e, e]; exact ⟨.inr (.inr ⟨rfl, hcn⟩), (h.ok.at_ v h.vl).2⟩
    · rw [if_neg e]; exact h.ok.at_ u hu
  · rw [e1]
    by_cases e : u = v
    · rw [if_pos e, e, h.v0]; simp
    · rw [if_neg e, h.one u hu]; simp [e]
  · rw [e1]
    have e : u ≠ v := fun e => by rw [e, h.v0] at h2; cases h2
    rw [if_neg e]
    exact h.two u hu h2
theorem StI.init (F : List FNode) : StI F (List.replicate F.length 0) (List.replicate F.length 0) := by
  have e : ∀ u, gd (List.replicate F.length 0) u = 0 := fun u => by
    unfold gd
    rw [List.getD_eq_getElem?_getD, List.getElem?_replicate]
    split <;> rfl
  exact ⟨by simp, by simp, fun u hu => by rw [e]; simp⟩
end Go.Proofs.YtnlpeiffbnlncaaDoor

/- What useful.lengths and useful.reached compute: rounds over the rules until nothing turns; what a fixed point is good for. No program is named here. -/
namespace Go.Proofs.YtnlpeiffbnlncaaDoor
open Go.RowKit
set_option linter.unusedVariables false

/-- The length of a right side, from a sum on; -1 where a part has none. -/
def sumR (l : List Int) : Int → List Sym → Int
  | a, [] => a
  | a, s :: ss => sumR l (if s.term = true ∧ 0 ≤ a then a + 1 else if 0 ≤ a ∧ 0 ≤ l.getD s.n.toNat 0 ∧ s.term = false then a + l.getD s.n.toNat 0 else -1) ss
/-- All parts have a length. -/
def useB (l : List Int) (q : Rule) : Bool := !(q.right.any fun s => !s.term && decide (l.getD s.n.toNat 0 < 0))
def lenStep (l : List Int) (q : Rule) : List Int :=
  if 0 ≤ sumR l 0 q.right ∧ (l.getD q.left.toNat 0 < 0 ∨ sumR l 0 q.right < l.getD q.left.toNat 0) then l.set q.left.toNat (sumR l 0 q.right) else l
def lenPass (rs : List Rule) (l : List Int) : List Int := rs.foldl lenStep l
def lenIter (rs : List Rule) : Nat → List Int → List Int
  | 0, l => l
  | k + 1, l => lenPass rs (lenIter rs k l)
def lenInit (n : Nat) : List Int := List.replicate n (-1)

def pw (k : Nat) : Nat := 4 ^ k
theorem pw_mono {a b : Nat} (h : a ≤ b) : pw a ≤ pw b := Nat.pow_le_pow_right (by omega) h
theorem pw_pos (a : Nat) : 1 ≤ pw a := pw_mono (Nat.zero_le a)
theorem pw_succ (a : Nat) : pw (a + 1) = 4 * pw a := by unfold pw; rw [Nat.pow_succ]; omega
theorem pw_ten : pw 10 = 1048576 := by decide
def cntN (l : List Int) : Nat := l.countP fun x => decide (0 ≤ x)
/-- The table of lengths on the way. -/
structure LShape (n : Nat) (l : List Int) : Prop where
  len : l.length = n
  low : ∀ x ∈ l, -1 ≤ x
  high : ∀ x ∈ l, x ≤ (pw (cntN l) : Int)

theorem LShape.cnt {n : Nat} {l : List Int} (h : LShape n l) : cntN l ≤ n := by have := List.countP_le_length (p := fun x : Int => decide (0 ≤ x)) (l := l); unfold cntN; have := h.len; omega
theorem LShape.init (n : Nat) : LShape n (lenInit n) := ⟨by simp [lenInit], fun x hx => by simp [lenInit] at hx; omega, fun x hx => by simp [lenInit] at hx; have := pw_pos (cntN (lenInit n)); omega⟩
theorem LShape.bound {n : Nat} {l : List Int} (h : LShape n l) (hn : n ≤ 10) : ∀ x ∈ l, -1 ≤ x ∧ x ≤ 1048576 := fun x hx => by
  refine ⟨h.low x hx, ?_⟩
  have h1 := h.high x hx
  have h2 := pw_mono (show cntN l ≤ 10 by have := h.cnt; omega)
  have h3 := pw_ten
  omega
theorem LShape.get {n : Nat} {l : List Int} (h : LShape n l) (k : Nat) : -1 ≤ l.getD k 0 ∧ l.getD k 0 ≤ (pw (cntN l) : Int) := by
  rw [List.getD_eq_getElem?_getD]
  cases hk : l[k]? with
  | none => have := pw_pos (cntN l); simp
  | some x => exact ⟨h.low x (List.mem_of_getElem? hk), h.high x (List.mem_of_getElem? hk)⟩

theorem sumR_neg (l : List Int) : ∀ (ss : List Sym) (a : Int), a < 0 → sumR l a ss = (if ss = [] then a else -1)
  | [], a, _ => by simp [sumR]
  | s :: ss, a, h => by
    rw [sumR, if_neg (by omega), if_neg (by omega), sumR_neg l ss (-1) (by omega)]
    split <;> simp
/-- One part's share. -/
def partR (l : List Int) (s : Sym) : Int := if s.term then 1 else l.getD s.n.toNat 0
theorem sumR_cons (l : List Int) (s : Sym) (ss : List Sym) (a : Int) (ha : 0 ≤ a) : sumR l a (s :: ss) = if 0 ≤ partR l s then sumR l (a + partR l s) ss else -1 := by
  rw [sumR]
  unfold partR
  cases hs : s.term
  · simp only [Bool.false_eq_true, false_and, if_false, and_true]
    by_cases h : 0 ≤ l.getD s.n.toNat 0
    · rw [if_pos ⟨ha, h⟩, if_pos h]
    · rw [if_neg (by omega), if_neg h, sumR_neg l ss _ (by omega)]; split <;> rfl
  · simp [ha]
theorem sumR_up (l : List Int) (B : Int) (hB : 1 ≤ B) (hl : ∀ k, l.getD k 0 ≤ B) : ∀ (ss : List Sym) (a : Int), sumR l a ss ≤ (if a < 0 then 0 else a) + B * ss.length
  | [], a => by simp [sumR]; split <;> omega
  | s :: ss, a => by
    have e : B * ((s :: ss).length : Int) = B * (ss.length : Int) + B := by simp [Int.mul_add]
    by_cases ha : a < 0
    · rw [sumR_neg l _ a ha]
      simp
      have : 0 ≤ B * ((ss.length : Int) + 1) := Int.mul_nonneg (by omega) (by omega)
      rw [if_pos ha]; omega
    · rw [sumR_cons l s ss a (by omega), if_neg ha, e]
      have hp : partR l s ≤ B := by unfold partR; split; omega; exact hl _
      have hm : 0 ≤ B * (ss.length : Int) := Int.mul_nonneg (by omega) (by omega)
      split
      · rename_i h0
        have := sumR_up l B hB hl ss (a + partR l s)
        rw [if_neg (by omega)] at this
        omega
      · omega
theorem sumR_low (l : List Int) : ∀ (ss : List Sym) (a : Int), 0 ≤ a → -1 ≤ sumR l a ss
  | [], a, h => by simp [sumR]; omega
  | s :: ss, a, h => by
    rw [sumR_cons l s ss a h]
    split
    · exact sumR_low l ss _ (by omega)
    · omega
/-- A right side has a length just if all its parts have. -/
theorem sumR_nonneg (l : List Int) : ∀ (ss : List Sym) (a : Int), 0 ≤ a → (0 ≤ sumR l a ss ↔ ∀ s ∈ ss, s.term = false → 0 ≤ l.getD s.n.toNat 0)
  | [], a, h => by simp [sumR, h]
  | s :: ss, a, h => by
    rw [sumR_cons l s ss a h]
    by_cases hp : 0 ≤ partR l s
    · rw [if_pos hp, sumR_nonneg l ss _ (by omega)]
      simp only [List.mem_cons, forall_eq_or_imp]
      constructor
      · exact fun h2 => ⟨fun hs => by unfold partR at hp; rw [hs] at hp; simpa using hp, h2⟩
      · exact fun h2 => h2.2
    · rw [if_neg hp]
      constructor
      · intro h; omega
      · intro h2
        exfalso
        apply hp
        unfold partR
        cases hs : s.term
        · simpa using h2 s (by simp) hs
        · simp
theorem useB_iff (l : List Int) (q : Rule) : useB l q = true ↔ ∀ s ∈ q.right, s.term = false → 0 ≤ l.getD s.n.toNat 0 := by
  unfold useB
  rw [Bool.not_eq_true', ← Bool.not_eq_true, List.any_eq_true]
  constructor
  · intro h s hs ht
    false_or_by_contra
    rename_i hneg
    exact h ⟨s, hs, by simp only [ht, Bool.not_false, Bool.true_and, decide_eq_true_eq]; omega⟩
  · rintro h ⟨s, hs, hp⟩
    simp at hp
    have := h s hs hp.1
    rw [List.getD_eq_getElem?_getD] at this
    omega

theorem countP_set_up {p : Int → Bool} : ∀ (l : List Int) (k : Nat) (x y : Int), l[k]? = some x → p y = true → (l.set k y).countP p = l.countP p + (if p x then 0 else 1)
  | [], k, x, y, h, _ => by simp at h
  | a :: l, 0, x, y, h, hy => by
    simp at h; subst h
    simp only [List.set_cons_zero, List.countP_cons, hy, if_true]
    split <;> omega
  | a :: l, k + 1, x, y, h, hy => by
    have := countP_set_up l k x y (by simpa using h) hy
    simp only [List.set_cons_succ, List.countP_cons, this]
    omega
theorem LShape.step {n : Nat} {l : List Int} (h : LShape n l) (q : Rule) (hq : q.left.toNat < n) (hr : q.right.length ≤ 4) : LShape n (lenStep l q) := by
  unfold lenStep
  split
  · rename_i hc
    obtain ⟨x, hx⟩ := get_some (show q.left.toNat < l.length by rw [h.len]; exact hq)
    have hxd : l.getD q.left.toNat 0 = x := by rw [List.getD_eq_getElem?_getD, hx]; rfl
    rw [hxd] at hc
    have hu := sumR_up l (pw (cntN l) : Int) (by have := pw_pos (cntN l); omega) (fun k => (h.get k).2) q.right 0
    have hcn := countP_set_up (p := fun x : Int => decide (0 ≤ x)) l q.left.toNat x (sumR l 0 q.right) hx (by simpa using hc.1)
    have hle : cntN l ≤ cntN (l.set q.left.toNat (sumR l 0 q.right)) := by unfold cntN; omega
    have hm := pw_mono hle
    have hp := pw_pos (cntN l)
    refine ⟨by simp [h.len], fun y hy => ?_, fun y hy => ?_⟩
    · rcases List.mem_or_eq_of_mem_set hy with hy | rfl
      · exact h.low y hy
      · omega
    · rcases List.mem_or_eq_of_mem_set hy with hy | rfl
      · have := h.high y hy; omega
      · by_cases hx0 : 0 ≤ x
        · have := h.high x (List.mem_of_getElem? hx); omega
        · have hcn2 : cntN (l.set q.left.toNat (sumR l 0 q.right)) = cntN l + 1 := by unfold cntN; rw [hcn]; simp [hx0]
          rw [hcn2, pw_succ]
          have h4 : (pw (cntN l) : Int) * (q.right.length : Int) ≤ (pw (cntN l) : Int) * 4 := Int.mul_le_mul_of_nonneg_left (by omega) (by omega)
          simp at hu
          omega
  · exact h
theorem LShape.pass {n : Nat} : ∀ (rs : List Rule) (l : List Int), LShape n l → (∀ q ∈ rs, q.left.toNat < n ∧ q.right.length ≤ 4) → LShape n (lenPass rs l)
  | [], l, h, _ => h
  | q :: rs, l, h, hr => LShape.pass rs (lenStep l q) (h.step q (hr q (by simp)).1 (hr q (by simp)).2) (fun x hx => hr x (by simp [hx]))

/-- What is left to fall. -/
def fuelI (x : Int) : Nat := if x < 0 then 1048577 else x.toNat
def lenFuel (l : List Int) : Nat := (l.map fuelI).sum
theorem lsum_set : ∀ (l : List Nat) (i x y : Nat), l[i]? = some x → (l.set i y).sum + x = l.sum + y
  | [], _, _, _, h => by simp at h
  | a :: l, 0, x, y, h => by simp at h; subst h; simp; omega
  | a :: l, i + 1, x, y, h => by
    have := lsum_set l i x y (by simpa using h)
    simp only [List.set_cons_succ, List.sum_cons]
    omega
theorem lenStep_fuel {n : Nat} {l : List Int} (h : LShape n l) (hn : n ≤ 10) (q : Rule) (hq : q.left.toNat < n) (hr : q.right.length ≤ 4) : lenStep l q = l ∨ lenFuel (lenStep l q) < lenFuel l := by
  have h2 := (h.step q hq hr).bound hn
  obtain ⟨x, hx⟩ := get_some (show q.left.toNat < l.length by rw [h.len]; exact hq)
  have hxd : l.getD q.left.toNat 0 = x := by rw [List.getD_eq_getElem?_getD, hx]; rfl
  unfold lenStep at h2 ⊢
  rw [hxd] at h2 ⊢
  split
  · rename_i hc
    rw [if_pos hc] at h2
    right
    have hl : q.left.toNat < l.length := (List.getElem?_eq_some_iff.1 hx).1
    have hv := h2 (sumR l 0 q.right) (List.mem_iff_getElem.2 ⟨q.left.toNat, by simpa using hl, by simp⟩)
    have hs := lsum_set (l.map fuelI) q.left.toNat (fuelI x) (fuelI (sumR l 0 q.right)) (by rw [List.getElem?_map, hx]; rfl)
    have hlt : fuelI (sumR l 0 q.right) < fuelI x := by
      unfold fuelI
      rw [if_neg (by omega)]
      split <;> omega
    unfold lenFuel
    rw [List.map_set]
    omega
  · left; rfl

/-- A table that no rule's step turns. -/
structure LFix (g : Gram) (n : Nat) (l : List Int) : Prop where
  shape : LShape n l
  iter : ∃ k, l = lenIter g.rules k (lenInit n)
  fix : ∀ q ∈ g.rules, lenStep l q = l
theorem LFix.closed {g : Gram} {n : Nat} {l : List Int} (h : LFix g n l) {q : Rule} (hq : q ∈ g.rules) (hl : q.left.toNat < n) (hu : useB l q = true) : 0 ≤ l.getD q.left.toNat 0 := by
  have hs := (sumR_nonneg l q.right 0 (by omega)).2 ((useB_iff l q).1 hu)
  have hf := h.fix q hq
  have hlt : q.left.toNat < l.length := by rw [h.shape.len]; exact hl
  unfold lenStep at hf
  false_or_by_contra
  rename_i hneg
  rw [if_pos ⟨hs, .inl (by omega)⟩] at hf
  have h2 := congrArg (fun z : List Int => z.getD q.left.toNat 0) hf
  simp only [List.getD_eq_getElem?_getD, List.getElem?_set, if_true, if_pos hlt] at h2
  rw [List.getD_eq_getElem?_getD] at hneg
  simp at h2
  omega
theorem lenStep_mono (l : List Int) (q : Rule) (k : Nat) (h : 0 ≤ l.getD k 0) (hk : k < l.length) : 0 ≤ (lenStep l q).getD k 0 := by
  unfold lenStep
  split
  · rename_i hc
    rw [List.getD_eq_getElem?_getD, List.getElem?_set]
    split
    · split
      · simpa using hc.1
      · simp
    · rw [List.getD_eq_getElem?_getD] at h; exact h
  · exact h

/-- The terminals and nonterminals of a rule are in range. -/
def RulesIn (g : Gram) (n : Nat) : Prop := ∀ q ∈ g.rules, 0 ≤ q.left ∧ q.left.toNat < n ∧ q.right.length ≤ 4 ∧ ∀ s ∈ q.right, 0 ≤ s.n ∧ (s.term = false → s.n.toNat < n)

mutual
/-- A tree's root has a word. -/
theorem vt_len {g : Gram} {n : Nat} {l : List Int} (h : LFix g n l) (hr : RulesIn g n) : ∀ (t : Tree) (s : Sym), vt g t s → s.term = false → 0 ≤ l.getD s.n.toNat 0
  | ⟨r, t, ks⟩, s, hv, hs => by
    unfold vt at hv
    rw [if_neg (by simp [hs])] at hv
    obtain ⟨_, _, q, hq, hql, hks⟩ := hv
    have hm := List.mem_of_getElem? hq
    rw [← hql]
    exact h.closed hm (hr q hm).2.1 ((useB_iff l q).2 (vts_len' h hr ks q.right hks))
theorem vts_len' {g : Gram} {n : Nat} {l : List Int} (h : LFix g n l) (hr : RulesIn g n) : ∀ (ks : List Tree) (ss : List Sym), vts g ks ss → ∀ s ∈ ss, s.term = false → 0 ≤ l.getD s.n.toNat 0
  | [], [], _, s, hs, _ => by simp at hs
  | [], _ :: _, hv, _, _, _ => by unfold vts at hv; exact hv.elim
  | _ :: _, [], hv, _, _, _ => by unfold vts at hv; exact hv.elim
  | k :: ks, x :: ss, hv, s, hs, ht => by
    unfold vts at hv
    rcases List.mem_cons.1 hs with rfl | hs
    · exact vt_len h hr k s hv.1 ht
    · exact vts_len' h hr ks ss hv.2 s hs ht
end

/-! ### Reached nonterminals -/
def symStep (s : List Bool) (x : Sym) : List Bool := if x.term then s else s.set x.n.toNat true
def reachStep (p : Rule → Bool) (s : List Bool) (q : Rule) : List Bool := if s.getD q.left.toNat false && p q then q.right.foldl symStep s else s
def reachPass (p : Rule → Bool) (rs : List Rule) (s : List Bool) : List Bool := rs.foldl (reachStep p) s
def reachIter (p : Rule → Bool) (rs : List Rule) : Nat → List Bool → List Bool
  | 0, s => s
  | k + 1, s => reachPass p rs (reachIter p rs k s)
def reachInit (n s0 : Nat) : List Bool := (List.replicate n false).set s0 true

theorem rcount_set : ∀ (l : List Bool) (i : Nat), (l.set i true).count false + (if l[i]? = some false then 1 else 0) = l.count false
  | [], i => by simp
  | a :: l, 0 => by cases a <;> simp
  | a :: l, i + 1 => by
    have := rcount_set l i
    simp only [List.set_cons_succ, List.count_cons, List.getElem?_cons_succ]
    omega
theorem set_true_id {l : List Bool} {i : Nat} (h : ¬ l[i]? = some false) : l.set i true = l := by
  apply List.ext_getElem?
  intro j
  rw [List.getElem?_set]
  split
  · rename_i e
    subst e
    split
    · rename_i hl
      rw [List.getElem?_eq_getElem hl] at h ⊢
      cases hb : l[i]
      · rw [hb] at h; exact absurd rfl h
      · rfl
    · rename_i hl
      rw [List.getElem?_eq_none (by omega)]
  · rfl
theorem symStep_len (s : List Bool) (x : Sym) : (symStep s x).length = s.length := by unfold symStep; split <;> simp
theorem symStep_count (s : List Bool) (x : Sym) : symStep s x = s ∨ (symStep s x).count false < s.count false := by
  unfold symStep
  split
  · exact .inl rfl
  · by_cases h : s[x.n.toNat]? = some false
    · right; have := rcount_set s x.n.toNat; rw [if_pos h] at this; omega
    · exact .inl (set_true_id h)
theorem symFold_len : ∀ (xs : List Sym) (s : List Bool), (xs.foldl symStep s).length = s.length
  | [], _ => rfl
  | x :: xs, s => by rw [List.foldl_cons, symFold_len xs, symStep_len]
theorem symFold_count : ∀ (xs : List Sym) (s : List Bool), xs.foldl symStep s = s ∨ (xs.foldl symStep s).count false < s.count false
  | [], s => .inl rfl
  | x :: xs, s => by
    rw [List.foldl_cons]
    rcases symStep_count s x with h | h
    · rw [h]; exact symFold_count xs s
    · rcases symFold_count xs (symStep s x) with h2 | h2
      · rw [h2]; exact .inr h
      · exact .inr (by omega)
theorem reachStep_len (p : Rule → Bool) (s : List Bool) (q : Rule) : (reachStep p s q).length = s.length := by unfold reachStep; split; exact symFold_len _ _; rfl
theorem reachStep_count (p : Rule → Bool) (s : List Bool) (q : Rule) : reachStep p s q = s ∨ (reachStep p s q).count false < s.count false := by
  unfold reachStep; split; exact symFold_count _ _; exact .inl rfl
theorem symStep_keep (s : List Bool) (x : Sym) (k : Nat) (h : s[k]? = some true) : (symStep s x)[k]? = some true := by
  unfold symStep
  split
  · exact h
  · rw [List.getElem?_set]
    split
    · rw [if_pos (by rename_i e; rw [e]; exact (List.getElem?_eq_some_iff.1 h).1)]
    · exact h
theorem symFold_keep : ∀ (xs : List Sym) (s : List Bool) (k : Nat), s[k]? = some true → (xs.foldl symStep s)[k]? = some true
  | [], _, _, h => h
  | x :: xs, s, k, h => symFold_keep xs _ k (symStep_keep s x k h)
theorem symFold_in : ∀ (xs : List Sym) (s : List Bool) (x : Sym), x ∈ xs → x.term = false → x.n.toNat < s.length → (xs.foldl symStep s)[x.n.toNat]? = some true
  | [], _, _, h, _, _ => by simp at h
  | y :: xs, s, x, h, ht, hl => by
    rw [List.foldl_cons]
    rcases List.mem_cons.1 h with rfl | h
    · apply symFold_keep
      unfold symStep
      rw [ht]
      simp [hl]
    · exact symFold_in xs _ x h ht (by rw [symStep_len]; exact hl)
/-- A row that no rule's step turns. -/
structure RFix (g : Gram) (p : Rule → Bool) (n : Nat) (s : List Bool) : Prop where
  len : s.length = n
  start : s[g.start.toNat]? = some true
  iter : ∃ k, s = reachIter p g.rules k (reachInit n g.start.toNat)
  fix : ∀ q ∈ g.rules, reachStep p s q = s
theorem RFix.closed {g : Gram} {p : Rule → Bool} {n : Nat} {s : List Bool} (h : RFix g p n s) {q : Rule} (hq : q ∈ g.rules) (hl : s[q.left.toNat]? = some true) (hp : p q = true) {x : Sym} (hx : x ∈ q.right) (ht : x.term = false) (hn : x.n.toNat < n) : s[x.n.toNat]? = some true := by
  have hf := h.fix q hq
  unfold reachStep at hf
  rw [List.getD_eq_getElem?_getD, hl, hp] at hf
  simp at hf
  rw [← hf]
  exact symFold_in q.right s x hx ht (by rw [h.len]; exact hn)

/-- The rules that remain. -/
def stayB (l : List Int) (s : List Bool) (q : Rule) : Bool := s.getD q.left.toNat false && useB l q
mutual
/-- All rules of a tree are among some numbers. -/
def allIn (rs : List Int) : Tree → Bool
  | ⟨r, _, ks⟩ => (decide (r < 0) || decide (r ∈ rs)) && allsIn rs ks
def allsIn (rs : List Int) : List Tree → Bool
  | [] => true
  | k :: ks => allIn rs k && allsIn rs ks
end
mutual
theorem vt_stay {g : Gram} {n : Nat} {l : List Int} {s : List Bool} (hl : LFix g n l) (hs : RFix g (useB l) n s) (hr : RulesIn g n) (rs : List Int) (hrs : ∀ (i : Nat) (q : Rule), g.rules[i]? = some q → stayB l s q = true → (i : Int) ∈ rs) :
    ∀ (t : Tree) (x : Sym), vt g t x → (x.term = false → s[x.n.toNat]? = some true) → allIn rs t = true
  | ⟨r, t, ks⟩, x, hv, hx => by
    unfold vt at hv
    unfold allIn
    cases hxt : x.term
    · rw [if_neg (by simp [hxt])] at hv
      obtain ⟨_, hr0, q, hq, hql, hks⟩ := hv
      have hm := List.mem_of_getElem? hq
      have hin := hx hxt
      rw [← hql] at hin
      have hu : useB l q = true := (useB_iff l q).2 (vts_len' hl hr ks q.right hks)
      have hst : stayB l s q = true := by unfold stayB; rw [List.getD_eq_getElem?_getD, hin, hu]; rfl
      have h1 := hrs r.toNat q hq hst
      rw [show ((r.toNat : Nat) : Int) = r from by omega] at h1
      rw [vts_stay hl hs hr rs hrs ks q.right hks (fun y hy ht => hs.closed hm hin hu hy ht ((hr q hm).2.2.2 y hy |>.2 ht))]
      simp [h1]
    · rw [if_pos hxt] at hv
      obtain ⟨rfl, _, rfl⟩ := hv
      simp [allsIn]
theorem vts_stay {g : Gram} {n : Nat} {l : List Int} {s : List Bool} (hl : LFix g n l) (hs : RFix g (useB l) n s) (hr : RulesIn g n) (rs : List Int) (hrs : ∀ (i : Nat) (q : Rule), g.rules[i]? = some q → stayB l s q = true → (i : Int) ∈ rs) :
    ∀ (ks : List Tree) (ss : List Sym), vts g ks ss → (∀ x ∈ ss, x.term = false → s[x.n.toNat]? = some true) → allsIn rs ks = true
  | [], [], _, _ => by simp [allsIn]
  | [], _ :: _, hv, _ => by unfold vts at hv; exact hv.elim
  | _ :: _, [], hv, _ => by unfold vts at hv; exact hv.elim
  | k :: ks, x :: ss, hv, h => by
    unfold vts at hv
    unfold allsIn
    rw [vt_stay hl hs hr rs hrs k x hv.1 (h x (by simp)), vts_stay hl hs hr rs hrs ks ss hv.2 (fun y hy => h y (by simp [hy]))]
    rfl
end
end Go.Proofs.YtnlpeiffbnlncaaDoor

/- What useful.Trim computes, and the plain law of UsefulOnce: in a trimmed grammar all nonterminals have a word and are reached. No program is named here. -/
namespace Go.Proofs.YtnlpeiffbnlncaaDoor
open Go.RowKit
set_option linter.unusedVariables false

/-- A nonterminal's new number. -/
def toV (s : List Bool) (n : Nat) : Nat := if s.getD n false then (s.take n).count true else 0
def renSym (s : List Bool) (x : Sym) : Sym := if x.term then x else ⟨false, (toV s x.n.toNat : Nat)⟩
def trimRule (s : List Bool) (q : Rule) : Rule := ⟨(toV s q.left.toNat : Nat), q.right.map (renSym s)⟩
def trimG (g : Gram) (l : List Int) (s : List Bool) : Gram := ⟨g.terms, (s.count true : Nat), (toV s g.start.toNat : Nat), (g.rules.filter (stayB l s)).map (trimRule s)⟩

/-! Numbers of the true places. -/
theorem take_count_lt : ∀ (s : List Bool) (i j : Nat), i < j → s[i]? = some true → (s.take i).count true < (s.take j).count true
  | [], i, j, _, h => by simp at h
  | a :: s, 0, j + 1, _, h => by simp at h; subst h; simp
  | a :: s, i + 1, j + 1, hij, h => by
    have := take_count_lt s i j (by omega) (by simpa using h)
    simp only [List.take_succ_cons, List.count_cons]
    omega
theorem toV_lt {s : List Bool} {i : Nat} (h : s[i]? = some true) : toV s i < s.count true := by
  unfold toV
  rw [List.getD_eq_getElem?_getD, h]
  have hl := (List.getElem?_eq_some_iff.1 h).1
  have := take_count_lt s i s.length hl h
  rw [List.take_length] at this
  simpa using this
theorem toV_inj {s : List Bool} {i j : Nat} (hi : s[i]? = some true) (hj : s[j]? = some true) (h : toV s i = toV s j) : i = j := by
  unfold toV at h
  rw [List.getD_eq_getElem?_getD, hi, List.getD_eq_getElem?_getD, hj] at h
  simp at h
  rcases Nat.lt_trichotomy i j with hl | rfl | hl
  · have := take_count_lt s i j hl hi; omega
  · rfl
  · have := take_count_lt s j i hl hj; omega
theorem toV_onto : ∀ (s : List Bool) (k : Nat), k < s.count true → ∃ i, s[i]? = some true ∧ (s.take i).count true = k
  | [], k, h => by simp at h
  | false :: s, k, h => by
    obtain ⟨i, h1, h2⟩ := toV_onto s k (by simpa using h)
    exact ⟨i + 1, by simpa using h1, by simp [h2]⟩
  | true :: s, 0, h => ⟨0, rfl, by simp⟩
  | true :: s, k + 1, h => by
    obtain ⟨i, h1, h2⟩ := toV_onto s k (by simpa using h)
    exact ⟨i + 1, by simpa using h1, by simp [h2]⟩
theorem toV_ex {s : List Bool} {k : Nat} (h : k < s.count true) : ∃ i, s[i]? = some true ∧ toV s i = k := by
  obtain ⟨i, h1, h2⟩ := toV_onto s k h
  exact ⟨i, h1, by unfold toV; rw [List.getD_eq_getElem?_getD, h1]; simpa using h2⟩

/-! Derived nonterminals, reached nonterminals. -/
inductive Der (g : Gram) : Nat → Prop where
  | mk (q : Rule) (hq : q ∈ g.rules) (h : ∀ x ∈ q.right, x.term = false → Der g x.n.toNat) : Der g q.left.toNat
inductive Rea (g : Gram) (p : Rule → Bool) : Nat → Prop where
  | start : Rea g p g.start.toNat
  | step (q : Rule) (hq : q ∈ g.rules) (h : Rea g p q.left.toNat) (hp : p q = true) (x : Sym) (hx : x ∈ q.right) (ht : x.term = false) : Rea g p x.n.toNat

theorem getD_of {α : Type} {l : List α} {k : Nat} {x d : α} (h : l[k]? = some x) : l.getD k d = x := by rw [List.getD_eq_getElem?_getD, h]; rfl
theorem lenStep_der {g : Gram} {n : Nat} {l : List Int} (hl : l.length = n) (h : ∀ k, k < n → 0 ≤ l.getD k 0 → Der g k) (q : Rule) (hq : q ∈ g.rules) (hr : RulesIn g n) : ∀ k, k < n → 0 ≤ (lenStep l q).getD k 0 → Der g k := by
  intro k hk h0
  unfold lenStep at h0
  split at h0
  · rename_i hc
    by_cases e : q.left.toNat = k
    · subst e
      refine Der.mk q hq fun x hx ht => h _ ((hr q hq).2.2.2 x hx |>.2 ht) ?_
      exact (sumR_nonneg l q.right 0 (by omega)).1 hc.1 x hx ht
    · rw [List.getD_eq_getElem?_getD, List.getElem?_set, if_neg e, ← List.getD_eq_getElem?_getD] at h0
      exact h k hk h0
  · exact h k hk h0
theorem lenStep_len (l : List Int) (q : Rule) : (lenStep l q).length = l.length := by unfold lenStep; split <;> simp
theorem lenPass_len : ∀ (rs : List Rule) (l : List Int), (lenPass rs l).length = l.length
  | [], l => rfl
  | q :: rs, l => by show (lenPass rs (lenStep l q)).length = _; rw [lenPass_len rs, lenStep_len]
theorem lenPass_der {g : Gram} {n : Nat} (hr : RulesIn g n) : ∀ (rs : List Rule) (l : List Int), (∀ q ∈ rs, q ∈ g.rules) → l.length = n → (∀ k, k < n → 0 ≤ l.getD k 0 → Der g k) → ∀ k, k < n → 0 ≤ (lenPass rs l).getD k 0 → Der g k
  | [], l, _, _, h => h
  | q :: rs, l, hq, hl, h => lenPass_der hr rs (lenStep l q) (fun x hx => hq x (by simp [hx])) (by rw [lenStep_len, hl]) (lenStep_der hl h q (hq q (by simp)) hr)
theorem lenIter_der {g : Gram} {n : Nat} (hr : RulesIn g n) : ∀ (j : Nat), (lenIter g.rules j (lenInit n)).length = n ∧ ∀ k, k < n → 0 ≤ (lenIter g.rules j (lenInit n)).getD k 0 → Der g k
  | 0 => ⟨by simp [lenIter, lenInit], fun k hk h => by
    exfalso
    rw [lenIter, lenInit, List.getD_eq_getElem?_getD, List.getElem?_replicate, if_pos hk] at h
    simp at h⟩
  | j + 1 => by
    obtain ⟨h1, h2⟩ := lenIter_der hr j
    exact ⟨by rw [lenIter, lenPass_len, h1], lenPass_der hr g.rules _ (fun q h => h) h1 h2⟩
theorem LFix.der {g : Gram} {n : Nat} {l : List Int} (h : LFix g n l) (hr : RulesIn g n) {k : Nat} (hk : k < n) (h0 : 0 ≤ l.getD k 0) : Der g k := by
  obtain ⟨j, hj⟩ := h.iter
  rw [hj] at h0
  exact (lenIter_der hr j).2 k hk h0
theorem LFix.of_der {g : Gram} {n : Nat} {l : List Int} (h : LFix g n l) (hr : RulesIn g n) {k : Nat} (hd : Der g k) : 0 ≤ l.getD k 0 := by
  induction hd with
  | mk q hq _ ih => exact h.closed hq (hr q hq).2.1 ((useB_iff l q).2 ih)

theorem symFold_rea {g : Gram} {p : Rule → Bool} (q : Rule) (hq : q ∈ g.rules) (hl : Rea g p q.left.toNat) (hp : p q = true) : ∀ (xs : List Sym) (s : List Bool), (∀ x ∈ xs, x ∈ q.right) → (∀ k : Nat, s[k]? = some true → Rea g p k) → ∀ k : Nat, (xs.foldl symStep s)[k]? = some true → Rea g p k
  | [], s, _, h => h
  | x :: xs, s, hx, h => symFold_rea q hq hl hp xs (symStep s x) (fun y hy => hx y (by simp [hy])) (fun k hk => by
    unfold symStep at hk
    split at hk
    · exact h k hk
    · rename_i ht
      rw [List.getElem?_set] at hk
      split at hk
      · rename_i e
        subst e
        exact Rea.step q hq hl hp x (hx x (by simp)) (by simpa using ht)
      · exact h k hk)
theorem reachPass_rea {g : Gram} {p : Rule → Bool} : ∀ (rs : List Rule) (s : List Bool), (∀ q ∈ rs, q ∈ g.rules) → (∀ k : Nat, s[k]? = some true → Rea g p k) → ∀ k : Nat, (reachPass p rs s)[k]? = some true → Rea g p k
  | [], s, _, h => h
  | q :: rs, s, hq, h => reachPass_rea rs (reachStep p s q) (fun x hx => hq x (by simp [hx])) (fun k hk => by
    unfold reachStep at hk
    split at hk
    · rename_i hc
      simp only [Bool.and_eq_true] at hc
      have hl : s[q.left.toNat]? = some true := by
        have := hc.1
        rw [List.getD_eq_getElem?_getD] at this
        cases hs : s[q.left.toNat]? with
        | none => rw [hs] at this; simp at this
        | some b => rw [hs] at this; simp at this; rw [this]
      exact symFold_rea q (hq q (by simp)) (h _ hl) hc.2 q.right s (fun x hx => hx) h k hk
    · exact h k hk)
theorem reachIter_rea {g : Gram} {p : Rule → Bool} {n : Nat} : ∀ (j : Nat) (k : Nat), (reachIter p g.rules j (reachInit n g.start.toNat))[k]? = some true → Rea g p k
  | 0, k, h => by
    rw [reachIter, reachInit, List.getElem?_set] at h
    split at h
    · rename_i e; subst e; exact Rea.start
    · rw [List.getElem?_replicate] at h
      split at h <;> simp at h
  | j + 1, k, h => reachPass_rea g.rules _ (fun q h => h) (reachIter_rea j) k h
theorem RFix.rea {g : Gram} {p : Rule → Bool} {n : Nat} {s : List Bool} (h : RFix g p n s) {k : Nat} (hk : s[k]? = some true) : Rea g p k := by
  obtain ⟨j, hj⟩ := h.iter
  rw [hj] at hk
  exact reachIter_rea j k hk
/-- What is reached through rules whose parts all have a word has a word. -/
theorem reached_len {g : Gram} {n : Nat} {l : List Int} {k : Nat} (h0 : 0 ≤ l.getD g.start.toNat 0) (h : Rea g (useB l) k) : 0 ≤ l.getD k 0 := by
  cases h with
  | start => exact h0
  | step q hq h hp x hx ht => exact (useB_iff l q).1 hp x hx ht

/-- What Trim works on and leaves. -/
structure TrimS (g : Gram) (n : Nat) (l : List Int) (s : List Bool) : Prop where
  lens : LFix g n l
  reach : RFix g (useB l) n s
  rules : RulesIn g n
  pos : 0 ≤ l.getD g.start.toNat 0

theorem getD_true {s : List Bool} {k : Nat} : s.getD k false = true ↔ s[k]? = some true := by
  rw [List.getD_eq_getElem?_getD]
  cases s[k]? with
  | none => simp
  | some b => simp
theorem TrimS.stay {g : Gram} {n : Nat} {l : List Int} {s : List Bool} (h : TrimS g n l s) {q : Rule} (hq : q ∈ g.rules) (hl : s[q.left.toNat]? = some true) (hu : useB l q = true) : trimRule s q ∈ (trimG g l s).rules := by
  unfold trimG
  refine List.mem_map.2 ⟨q, List.mem_filter.2 ⟨hq, ?_⟩, rfl⟩
  unfold stayB
  rw [getD_true.2 hl, hu]; rfl
theorem TrimS.parts {g : Gram} {n : Nat} {l : List Int} {s : List Bool} (h : TrimS g n l s) {r : Rule} (hr : r ∈ (trimG g l s).rules) : ∃ q ∈ g.rules, s[q.left.toNat]? = some true ∧ useB l q = true ∧ r = trimRule s q ∧ ∀ x ∈ q.right, x.term = false → s[x.n.toNat]? = some true := by
  obtain ⟨q, hq, rfl⟩ := List.mem_map.1 hr
  obtain ⟨hq, hs⟩ := List.mem_filter.1 hq
  unfold stayB at hs
  simp only [Bool.and_eq_true] at hs
  have hl := getD_true.1 hs.1
  exact ⟨q, hq, hl, hs.2, rfl, fun x hx ht => h.reach.closed hq hl hs.2 hx ht ((h.rules q hq).2.2.2 x hx |>.2 ht)⟩
theorem TrimS.rulesIn {g : Gram} {n : Nat} {l : List Int} {s : List Bool} (h : TrimS g n l s) : RulesIn (trimG g l s) (s.count true) := by
  intro r hr
  obtain ⟨q, hq, hl, hu, rfl, hx⟩ := h.parts hr
  refine ⟨by simp [trimRule], by simpa [trimRule] using toV_lt hl, by simpa [trimRule] using (h.rules q hq).2.2.1, fun y hy => ?_⟩
  obtain ⟨x, hxm, rfl⟩ := List.mem_map.1 hy
  unfold renSym
  split
  · rename_i ht
    exact ⟨((h.rules q hq).2.2.2 x hxm).1, fun h => by rw [ht] at h; cases h⟩
  · rename_i ht
    exact ⟨by simp, fun _ => by simpa using toV_lt (hx x hxm (by simpa using ht))⟩
/-- All nonterminals of a trimmed grammar have a word. -/
theorem TrimS.der {g : Gram} {n : Nat} {l : List Int} {s : List Bool} (h : TrimS g n l s) {k : Nat} (hd : Der g k) (hk : s[k]? = some true) : Der (trimG g l s) (toV s k) := by
  induction hd with
  | mk q hq hx ih =>
    have hu : useB l q = true := (useB_iff l q).2 (fun x hxm ht => h.lens.of_der h.rules (hx x hxm ht))
    have hm := h.stay hq hk hu
    have e : toV s q.left.toNat = (trimRule s q).left.toNat := by simp [trimRule]
    rw [e]
    refine Der.mk _ hm fun y hy ht => ?_
    obtain ⟨x, hxm, rfl⟩ := List.mem_map.1 hy
    have hxt : x.term = false := by
      cases hb : x.term
      · rfl
      · unfold renSym at ht; rw [if_pos hb] at ht; rw [hb] at ht; cases ht
    have e2 : (renSym s x).n.toNat = toV s x.n.toNat := by unfold renSym; rw [if_neg (by simp [hxt])]; simp
    rw [e2]
    exact ih x hxm hxt (h.reach.closed hq hk hu hxm hxt ((h.rules q hq).2.2.2 x hxm |>.2 hxt))
theorem TrimS.ends {g : Gram} {n : Nat} {l : List Int} {s : List Bool} (h : TrimS g n l s) {l' : List Int} (h' : LFix (trimG g l s) (s.count true) l') {k : Nat} (hk : k < s.count true) : 0 ≤ l'.getD k 0 := by
  obtain ⟨i, hi, rfl⟩ := toV_ex hk
  have hin : i < n := by rw [← h.reach.len]; exact (List.getElem?_eq_some_iff.1 hi).1
  exact h'.of_der h.rulesIn (h.der (h.lens.der h.rules hin (reached_len (n := n) h.pos (h.reach.rea hi))) hi)
/-- All nonterminals of a trimmed grammar are reached. -/
theorem TrimS.rea {g : Gram} {n : Nat} {l : List Int} {s : List Bool} (h : TrimS g n l s) {p' : Rule → Bool} {s' : List Bool} (h' : RFix (trimG g l s) p' (s.count true) s') (hp : ∀ r ∈ (trimG g l s).rules, p' r = true) {k : Nat} (hr : Rea g (useB l) k) : s[k]? = some true ∧ s'[toV s k]? = some true := by
  induction hr with
  | start =>
    refine ⟨h.reach.start, ?_⟩
    have := h'.start
    simpa [trimG] using this
  | step q hq hl hu x hx ht ih =>
    have hxs := h.reach.closed hq ih.1 hu hx ht ((h.rules q hq).2.2.2 x hx |>.2 ht)
    refine ⟨hxs, ?_⟩
    have hm := h.stay hq ih.1 hu
    have e2 : (renSym s x).n.toNat = toV s x.n.toNat := by unfold renSym; rw [if_neg (by simp [ht])]; simp
    have := h'.closed hm (by simpa [trimRule] using ih.2) (hp _ hm) (x := renSym s x) (List.mem_map.2 ⟨x, hx, rfl⟩) (by unfold renSym; rw [if_neg (by simp [ht])]) (by rw [e2]; exact toV_lt hxs)
    rwa [e2] at this
theorem TrimS.reached {g : Gram} {n : Nat} {l : List Int} {s : List Bool} (h : TrimS g n l s) {p' : Rule → Bool} {s' : List Bool} (h' : RFix (trimG g l s) p' (s.count true) s') (hp : ∀ r ∈ (trimG g l s).rules, p' r = true) {k : Nat} (hk : k < s.count true) : s'[k]? = some true := by
  obtain ⟨i, hi, rfl⟩ := toV_ex hk
  exact (h.rea h' hp (h.reach.rea hi)).2

/-! A grammar that Trim leaves as it is. -/
theorem all_true {s : List Bool} {n : Nat} (hl : s.length = n) (h : ∀ k, k < n → s[k]? = some true) : s = List.replicate n true := by
  apply List.ext_getElem?
  intro k
  rw [List.getElem?_replicate]
  split
  · rename_i hk; exact h k hk
  · rename_i hk; exact List.getElem?_eq_none (by omega)
theorem toV_all {n k : Nat} (h : k < n) : toV (List.replicate n true) k = k := by
  unfold toV
  rw [List.getD_eq_getElem?_getD, List.getElem?_replicate, if_pos h]
  simp [List.take_replicate]; omega
theorem trim_same {g : Gram} {n : Nat} {l : List Int} (hr : RulesIn g n) (hn : g.nons = (n : Int)) (h0 : 0 ≤ g.start) (h1 : g.start.toNat < n) (hl : ∀ k, k < n → 0 ≤ l.getD k 0) : trimG g l (List.replicate n true) = g ∧ (∀ q ∈ g.rules, stayB l (List.replicate n true) q = true) := by
  have hst : ∀ q ∈ g.rules, stayB l (List.replicate n true) q = true := by
    intro q hq
    have h2 := hr q hq
    unfold stayB
    rw [List.getD_eq_getElem?_getD, List.getElem?_replicate, if_pos h2.2.1, (useB_iff l q).2 (fun x hx ht => hl _ (h2.2.2.2 x hx |>.2 ht))]
    rfl
  refine ⟨?_, hst⟩
  obtain ⟨gt, gn, gs, rs⟩ := g
  unfold trimG
  have e1 : (List.replicate n true).count true = n := by simp
  have e2 : rs.filter (stayB l (List.replicate n true)) = rs := List.filter_eq_self.2 hst
  have e3 : rs.map (trimRule (List.replicate n true)) = rs := by
    have : ∀ q ∈ rs, trimRule (List.replicate n true) q = id q := by
      intro q hq
      obtain ⟨a, b, c, d⟩ := hr q hq
      obtain ⟨ql, qr⟩ := q
      dsimp only at a b c d
      unfold trimRule
      have e4 : qr.map (renSym (List.replicate n true)) = qr := by
        have : ∀ x ∈ qr, renSym (List.replicate n true) x = id x := by
          intro x hx
          obtain ⟨h3, h4⟩ := d x hx
          obtain ⟨xt, xn⟩ := x
          dsimp only at h3 h4
          unfold renSym
          cases xt
          · simp only [Bool.false_eq_true, if_false]
            rw [toV_all (h4 rfl)]
            simp; omega
          · simp
        rw [List.map_congr_left this, List.map_id]
      rw [toV_all b, e4]
      simp; omega
    rw [List.map_congr_left this, List.map_id]
  dsimp only at *
  rw [e1, e2, e3, toV_all h1, hn]
  congr 1
  omega
end Go.Proofs.YtnlpeiffbnlncaaDoor

/- Rows of bools that are known whole. No program is named here. -/
namespace Go.Proofs.YtnlpeiffbnlncaaDoor
open Go.RowKit
set_option linter.unusedVariables false

def bcells (l : List Bool) : Array Value := (l.map Value.bool).toArray
theorem bcells_get {l : List Bool} {i : Nat} {x : Bool} (h : l[i]? = some x) : (bcells l)[i]? = some (.bool x) := by simp [bcells, h]
theorem bcells_set (l : List Bool) (i : Nat) (x : Bool) : (bcells l).setIfInBounds i (.bool x) = bcells (l.set i x) := by
  simp [bcells, List.map_set]
theorem orRow_take : ∀ (a b : List Bool) (k : Nat) (x y : Bool), a[k]? = some x → b[k]? = some y → orRow a (b.take (k + 1)) = (orRow a (b.take k)).set k (x || y)
  | [], _, _, _, _, h, _ => by simp at h
  | _ :: _, [], _, _, _, _, h => by simp at h
  | t :: ts, f :: fs, 0, x, y, h1, h2 => by
    simp at h1 h2
    subst h1; subst h2
    cases ts <;> simp [orRow]
  | t :: ts, f :: fs, k + 1, x, y, h1, h2 => by
    have ih := orRow_take ts fs k x y (by simpa using h1) (by simpa using h2)
    simp only [List.take_succ_cons, orRow, List.set_cons_succ]
    rw [ih]
theorem orRow_nil : ∀ (a : List Bool), orRow a [] = a
  | [] => rfl
  | _ :: _ => rfl
theorem orRow_get : ∀ (a b : List Bool) (k j : Nat) (x : Bool), a[j]? = some x → k ≤ j → (orRow a (b.take k))[j]? = some x
  | [], _, _, _, _, h, _ => by simp at h
  | t :: ts, [], k, j, x, h, _ => by simpa [orRow] using h
  | t :: ts, f :: fs, 0, j, x, h, _ => by simpa [orRow] using h
  | t :: ts, f :: fs, k + 1, 0, x, h, hk => by omega
  | t :: ts, f :: fs, k + 1, j + 1, x, h, hk => by
    simp only [List.take_succ_cons, orRow, List.getElem?_cons_succ]
    exact orRow_get ts fs k j x (by simpa using h) (by omega)
theorem set_same {α : Type} {l : List α} {k : Nat} {x : α} (h : l[k]? = some x) : l.set k x = l := by
  apply List.ext_getElem?
  intro j
  rw [List.getElem?_set]
  by_cases e : k = j
  · subst e; simp [h]; exact (List.getElem?_eq_some_iff.1 h).1
  · simp [e]

theorem bcells_size (l : List Bool) : (bcells l).size = l.length := by simp [bcells]
theorem slack_get {a z : Array Value} {k : Nat} (h : k < a.size) : (a ++ z)[k]? = a[k]? := by
  rw [Array.getElem?_append]; simp [h]
theorem slack_set {a z : Array Value} {k : Nat} {v : Value} (h : k < a.size) : (a ++ z).setIfInBounds k v = a.setIfInBounds k v ++ z := by
  apply Array.ext'
  simp only [Array.toList_setIfInBounds, Array.toList_append]
  rw [List.set_append_left _ _ (by simpa using h)]
end Go.Proofs.YtnlpeiffbnlncaaDoor

/- make([]bool, n). -/
namespace Go.Proofs.YtnlpeiffbnlncaaDoor
open Go.RowKit
set_option linter.unusedVariables false

theorem mkBools (n : Nat) (hn : n ≤ 1000000) (W : World) : (Instr.makeSlice 51 (.int .i64 (n : Int)) (.int .i64 (n : Int))).run Tryd.prog W = .ok (.slice (some ⟨W.heap.size, 0, none⟩) n n) (W.alloc (.cells (bcells (List.replicate n false)) 4)) := by
  obtain ⟨i0, hi, hz0, hz1, hz2⟩ := info_parts infoBool
  have h := run_makeSlice (P := Tryd.prog) W 51 4 i0 (.bool false) Tryd.underlying51 hi hz0 .i64 .i64 (n : Int) (n : Int) (by omega) (Int.le_refl _) (by rw [hz1]; simp; omega) (by rw [hz2]; omega) (by omega)
  rw [h, hz1]
  simp only [Int.toNat_natCast]
  have e : madeCells (Value.bool false).cells (n * 1) = bcells (List.replicate n false) := by
    apply Array.ext'
    show (madeCells #[Value.bool false] (n * 1)).toList = _
    rw [toList_madeCells_one]
    simp [bcells]
  rw [e]

end Go.Proofs.YtnlpeiffbnlncaaDoor

