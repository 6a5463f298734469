/- Plain facts and definitions of this proof, of several texts joined: Short, IntCells, StabP, SortKLay, CmpL, Take, CntV, ClosedP. -/
import Derived.Test.YtnlpeiffbnlncaaDoorQp1
import Derived.StillTailTactics
import Derived.Laws.CopyOwn
import Derived.Deep.OwnRows
import Derived.IntWalk
import Derived.Laws.EntriesVeiled
import Derived.BigRegion
import Derived.Shelf.SlSortCmp.WholeK
import Derived.Test.YtnlpeiffbnlncaaDoorChecked
/- Steps of a region that draws its order, with their checks by themselves. No program is named here. -/
namespace Go.Proofs.YtnlpeiffbnlncaaDoor
open Go.RowKit
set_option linter.unusedVariables false

theorem sA {α : Type} {i : Nat} {a : α} {l : List α} : l.toArray.setIfInBounds i a = (l.set i a).toArray := List.setIfInBounds_toArray ..
theorem sB {α : Type} {x a : α} {l : List α} : (x :: l).set 0 a = a :: l := rfl
theorem sC {α : Type} {x a : α} {n : Nat} {l : List α} : (x :: l).set (n + 1) a = x :: l.set n a := rfl
section
variable {P : Program} {l : List Oper} {Q : Exit → Act → World → Prop} {md : Region.Mode} {S : World → Prop}
theorem tk (i : Nat) {oi : Oper} {rest : List Oper} {v : Value} {fuel : Nat} {listed : Array Bool} {a : Act} {w : World} (hi : l.drop i = oi :: rest)
    (hy : ∀ w, S w → (execOp a.eval oi).run P w = .ok (.value v) w)
    (h : wpAnyH P md l.toArray Q S fuel (listed.setIfInBounds i true) (a.put oi.dst v) w)
    (hs : Region.noSelect l.toArray = true := by kernel_rfl) (hf : Region.free md l.toArray listed i = true := by kernel_rfl) (hr : (Region.ready md l.toArray listed).contains i = true := by kernel_rfl)
    (hQ : ∀ c a w, Q (.panic c) (a.put oi.dst v) w → Q (.panic c) a w := by exact fun _ _ _ h => h) (hw : Region.wanted oi (yielded l.toArray a.tmps) = true := by rfl) (hS : S w := by assumption) : wpAnyH P md l.toArray Q S (fuel + 1) listed a w :=
  take_run hi hs hf hr hQ hw hy hS h
theorem tb (i : Nat) {oi : Oper} {rest : List Oper} {fuel : Nat} {listed : Array Bool} {a : Act} {w : World} (hi : l.drop i = oi :: rest)
    (h : wpAnyH P md l.toArray Q S fuel (listed.setIfInBounds i true) (a.put oi.dst undef) w)
    (hs : Region.noSelect l.toArray = true := by kernel_rfl) (hf : Region.free md l.toArray listed i = true := by kernel_rfl) (hr : (Region.ready md l.toArray listed).contains i = true := by kernel_rfl)
    (hQ : ∀ c a w, Q (.panic c) (a.put oi.dst undef) w → Q (.panic c) a w := by exact fun _ _ _ h => h) (hw : Region.wanted oi (yielded l.toArray a.tmps) = false := by rfl) (hS : S w := by assumption) : wpAnyH P md l.toArray Q S (fuel + 1) listed a w :=
  take_bar hi hs hf hr hQ hw hS h
end
section
variable {P : Program} {l : List Oper} {Q : Exit → Act → World → Prop} {md : Region.Mode} {S : World → Prop} {d : Nat}
theorem sk (i : Nat) {oi : Oper} {rest : List Oper} {v : Value} {fuel : Nat} {listed : Array Bool} {a : Act} {w : World} (hi : l.drop i = oi :: rest)
    (hy : ∀ w, (execOp a.eval oi).run P w = .ok (.value v) w)
    (h : wpAnyD P md l.toArray Q S d fuel (listed.setIfInBounds i true) (a.put oi.dst v) w)
    (hs : Region.noSelect l.toArray = true := by kernel_rfl) (hf : Region.free md l.toArray listed i = true := by kernel_rfl) (hr : (Region.ready md l.toArray listed).contains i = true := by kernel_rfl) (hid : (i != d) = true := by kernel_rfl)
    (hQ : ∀ c a w, Q (.panic c) (a.put oi.dst v) w → Q (.panic c) a w := by exact fun _ _ _ h => h) (hw : Region.wanted oi (yielded l.toArray a.tmps) = true := by rfl) (hS : S w := by assumption) : wpAnyD P md l.toArray Q S d (fuel + 1) listed a w :=
  st_pure hi hs hf hr hid hQ hw hy (.inl hS) h
theorem sl (i : Nat) {oi : Oper} {rest : List Oper} {v : Value} {fuel : Nat} {listed : Array Bool} {a : Act} {w : World} (hi : l.drop i = oi :: rest)
    (hy : ∀ w, S w → (execOp a.eval oi).run P w = .ok (.value v) w)
    (h : wpAnyD P md l.toArray Q S d fuel (listed.setIfInBounds i true) (a.put oi.dst v) w)
    (hs : Region.noSelect l.toArray = true := by kernel_rfl) (hf : Region.free md l.toArray listed i = true := by kernel_rfl) (hr : (Region.ready md l.toArray listed).contains i = true := by kernel_rfl) (hid : (i != d && waitsB md l.toArray d i && !listed.getD d false) = true := by kernel_rfl)
    (hQ : ∀ c a w, Q (.panic c) (a.put oi.dst v) w → Q (.panic c) a w := by exact fun _ _ _ h => h) (hw : Region.wanted oi (yielded l.toArray a.tmps) = true := by rfl) (hS : S w := by assumption) : wpAnyD P md l.toArray Q S d (fuel + 1) listed a w :=
  st_run hi hs hf hr hid hQ hw hy hS h
theorem sbar (i : Nat) {oi : Oper} {rest : List Oper} {fuel : Nat} {listed : Array Bool} {a : Act} {w : World} (hi : l.drop i = oi :: rest)
    (h : wpAnyD P md l.toArray Q S d fuel (listed.setIfInBounds i true) (a.put oi.dst undef) w)
    (hs : Region.noSelect l.toArray = true := by kernel_rfl) (hf : Region.free md l.toArray listed i = true := by kernel_rfl) (hr : (Region.ready md l.toArray listed).contains i = true := by kernel_rfl) (hid : (i != d) = true := by kernel_rfl)
    (hQ : ∀ c a w, Q (.panic c) (a.put oi.dst undef) w → Q (.panic c) a w := by exact fun _ _ _ h => h) (hw : Region.wanted oi (yielded l.toArray a.tmps) = false := by rfl) (hS : S w := by assumption) : wpAnyD P md l.toArray Q S d (fuel + 1) listed a w :=
  st_bar hi hs hf hr hid hQ hw (.inl hS) h
end
end Go.Proofs.YtnlpeiffbnlncaaDoor

/- Rows of numbers that are known whole; made. -/
namespace Go.Proofs.YtnlpeiffbnlncaaDoor
open Go.RowKit
set_option linter.unusedVariables false

def icells (l : List Int) : Array Value := (l.map fun x => Value.int .i64 x).toArray
theorem icells_size (l : List Int) : (icells l).size = l.length := by simp [icells]
theorem icells_get {l : List Int} {i : Nat} {x : Int} (h : l[i]? = some x) : (icells l)[i]? = some (.int .i64 x) := by simp [icells, h]
theorem icells_set (l : List Int) (i : Nat) (x : Int) : (icells l).setIfInBounds i (.int .i64 x) = icells (l.set i x) := by
  apply Array.ext'
  simp [icells, List.map_set]
theorem icells_made (n : Nat) : madeCells #[.int .i64 0] n = icells (List.replicate n 0) := by
  apply Array.ext'
  simp only [madeCells, icells, Array.toList_map, Array.toList_range, List.map_replicate]
  apply List.ext_getElem
  · simp
  · intro i h1 h2
    simp [Nat.mod_one]
theorem els_icells {w : World} {S : Nat → Prop} {g : Nat} {t : TypeId} {ms : List Int} (hb : Blk' w g t (icells ms)) (h : ∀ v ∈ ms, I64 v) (hS : S g) : Els w S ms (some ⟨g, 0, none⟩) :=
  fun _ => ⟨g, 0, rfl, hS, fun i x hi => ⟨[.int .i64 x], ⟨rfl, h x (List.mem_of_getElem? hi)⟩, fun j u hu => by
    match j, hu with
    | 0, hu =>
      simp at hu; subst hu
      have e : 0 + i * Dat.size Int + 0 = i := by show 0 + i * 1 + 0 = i; omega
      rw [e, hb.cell]
      exact icells_get hi⟩⟩
theorem mkInts (n : Nat) (hn : n ≤ 1000000) (W : World) : (Instr.makeSlice 22 (.int .i64 (n : Int)) (.int .i64 (n : Int))).run Tryd.prog W = .ok (.slice (some ⟨W.heap.size, 0, none⟩) n n) (W.alloc (.cells (icells (List.replicate n 0)) 3)) := by
  rw [← icells_made]
  exact run_make_row' (P := Tryd.prog) 22 3 (.int .i64 0) 8 Tryd.underlying22 infoInt rfl .i64 .i64 n (by omega) (by omega) W

end Go.Proofs.YtnlpeiffbnlncaaDoor

/- A row of packs (a rule and a slice of kids each) at the head of a block: its elements read, two changed. -/
namespace Go.Proofs.YtnlpeiffbnlncaaDoor
open Go.RowKit
set_option linter.unusedVariables false

structure PkV where
  r : Int
  a : Option Addr
  n : Nat
  c : Nat
def PkV.v (p : PkV) : Value := .agg #[.int .i64 p.r, .slice p.a p.n p.c]
/-- A row of packs at the head of a block. -/
def RowF (w : World) (g : Nat) (ps : List PkV) : Prop := ∃ cur, Blk' w g 128 cur ∧ ∀ (i : Nat) (p : PkV), ps[i]? = some p → cur[i * 2]? = some (.int .i64 p.r) ∧ cur[i * 2 + 1]? = some (.slice p.a p.n p.c)
theorem RowF.cell0 {w : World} {g : Nat} {ps : List PkV} (h : RowF w g ps) {i : Nat} {p : PkV} (hx : ps[i]? = some p) : w.cell? ⟨g, i * 2, none⟩ = some (.int .i64 p.r) := by
  obtain ⟨cur, hb, hc⟩ := h
  rw [hb.cell]; exact (hc i p hx).1
theorem RowF.cell1 {w : World} {g : Nat} {ps : List PkV} (h : RowF w g ps) {i : Nat} {p : PkV} (hx : ps[i]? = some p) : w.cell? ⟨g, i * 2 + 1, none⟩ = some (.slice p.a p.n p.c) := by
  obtain ⟨cur, hb, hc⟩ := h
  rw [hb.cell]; exact (hc i p hx).2
theorem RowF.frozen {w : World} {g : Nat} {ps : List PkV} (h : RowF w g ps) (i : Nat) : w.frozen? ⟨g, i, none⟩ = false := by
  obtain ⟨cur, hb, _⟩ := h
  exact hb.frozen i
theorem RowF.lt {w : World} {g : Nat} {ps : List PkV} (h : RowF w g ps) : g < w.heap.size := by
  obtain ⟨cur, hb, _⟩ := h
  exact hb.lt
theorem RowF.set_ {w : World} {g : Nat} {ps : List PkV} (h : RowF w g ps) (i : Nat) (p : PkV) : RowF ((w.setCell ⟨g, i * 2, none⟩ (.int .i64 p.r)).setCell ⟨g, i * 2 + 1, none⟩ (.slice p.a p.n p.c)) g (ps.set i p) := by
  obtain ⟨cur, hb, hc⟩ := h
  refine ⟨_, (hb.set_ (i * 2) _).set_ (i * 2 + 1) _, fun j x hx => ?_⟩
  by_cases e : i = j
  · subst e
    have hl : i < ps.length := by have := (List.getElem?_eq_some_iff.1 hx).1; simpa using this
    rw [List.getElem?_set_self hl] at hx
    injection hx with hx
    subst hx
    have h2 := hc i ps[i] (List.getElem?_eq_getElem hl)
    have h3 := (Array.getElem?_eq_some_iff.1 h2.1).1
    have h4 := (Array.getElem?_eq_some_iff.1 h2.2).1
    refine ⟨?_, ?_⟩
    · simp [Array.getElem?_setIfInBounds, h3]
    · simp [Array.getElem?_setIfInBounds, h4]
  · rw [List.getElem?_set_ne e] at hx
    obtain ⟨h1, h2⟩ := hc j x hx
    refine ⟨?_, ?_⟩
    · rw [Array.getElem?_setIfInBounds_ne (by omega), Array.getElem?_setIfInBounds_ne (by omega)]; exact h1
    · rw [Array.getElem?_setIfInBounds_ne (by omega), Array.getElem?_setIfInBounds_ne (by omega)]; exact h2
theorem RowF.kept {w w' : World} {X : Nat → Prop} {g : Nat} {ps : List PkV} (h : RowF w g ps) (k : Kept X w w') (hx : ¬ X g) : RowF w' g ps := by
  obtain ⟨cur, hb, hc⟩ := h
  exact ⟨cur, hb.kept k hx, hc⟩
theorem RowF.below {w w' : World} {g : Nat} {ps : List PkV} (h : RowF w g ps) (k : Below w.heap.size w w') : RowF w' g ps := by
  obtain ⟨cur, hb, hc⟩ := h
  exact ⟨cur, hb.below k hb.lt, hc⟩
theorem fswap_perm {ys : List PkV} {i j : Nat} {a b : PkV} (ha : ys[i]? = some a) (hb : ys[j]? = some b) : ((ys.set i b).set j a).Perm ys := by
  obtain ⟨h1, rfl⟩ := List.getElem?_eq_some_iff.1 ha
  obtain ⟨h2, rfl⟩ := List.getElem?_eq_some_iff.1 hb
  exact List.set_set_perm h1 h2
theorem pair_kept {w w' : World} {g i : Nat} {u v : Value} (h : Kept (fun b => b = g) w w') : Kept (fun b => b = g) w ((w'.setCell ⟨g, i * 2, none⟩ u).setCell ⟨g, i * 2 + 1, none⟩ v) :=
  (h.setCell (p := ⟨g, i * 2, none⟩) (.inl rfl) _).setCell (p := ⟨g, i * 2 + 1, none⟩) (.inl rfl) _
/-- What a function that only permutes the row gives. -/
def RetPm (w : World) (g : Nat) (ps : List PkV) (e : Ending) (w' : World) : Prop := e = .returned (.tuple #[]) ∧ ∃ qs : List PkV, RowF w' g qs ∧ qs.Perm ps ∧ Kept (fun b => b = g) w w'
/-- What is wanted of the comparison. -/
def CmpOk (w0 : World) (g : Nat) (ps : List PkV) : Prop :=
  ∀ p ∈ ps, ∀ q ∈ ps, ∀ W : World, Kept (fun b => b = g) w0 W → Calls Tryd.prog 103 #[p.v, q.v] W fun e w' => (∃ k : Int, e = .returned (.int .i64 k)) ∧ Below W.heap.size W w'
theorem CmpOk.perm {w0 w1 : World} {g : Nat} {ps qs : List PkV} (h : CmpOk w0 g ps) (hp : qs.Perm ps) (hk : Kept (fun b => b = g) w0 w1) : CmpOk w1 g qs :=
  fun p hp1 q hq W hW => h p (hp.subset hp1) q (hp.subset hq) W (hk.trans hW)
theorem RetPm.refl {w : World} {g : Nat} {ps : List PkV} (h : RowF w g ps) : RetPm w g ps (.returned (.tuple #[])) w := ⟨rfl, ps, h, List.Perm.refl _, Kept.refl _ _⟩
end Go.Proofs.YtnlpeiffbnlncaaDoor

/- slices.SortFunc at nodes of a forest, laid for the shelf's contract. -/
namespace Go.Proofs.YtnlpeiffbnlncaaDoor
open Go.Shelf

def sortK_ren : Go.Shelf.Ren := ⟨fun | 6 => 100 | 15 => 124 | 14 => 123 | 28 => 138 | 29 => 139 | 20 => 130 | 21 => 131 | 22 => 132 | 23 => 133 | 24 => 134 | 25 => 135 | 26 => 136 | 27 => 137 | 46 => 142 | 47 => 143 | 48 => 144 | 49 => 145 | 50 => 146 | 57 => 148 | n => n, fun | 22 => 164 | 24 => 160 | 25 => 171 | 3 => 3 | 39 => 181 | 0 => 0 | 53 => 161 | 55 => 202 | 4 => 4 | 46 => 208 | 45 => 207 | 50 => 191 | 5 => 5 | 9 => 9 | 66 => 216 | 70 => 85 | 76 => 221 | 77 => 222 | n => n, fun | n => n⟩
theorem sortK : Go.Proofs.SlLaysF0.n6 Tryd.prog sortK_ren := {
  mixed := by kernel_rfl,
  f6 := ⟨Tryd.f100.name, by decide, Tryd.func100.trans (congrArg some (by kernel_rfl))⟩,
  f14 := ⟨Tryd.f123.name, by decide, Tryd.func123.trans (congrArg some (by kernel_rfl))⟩,
  f15 := Tryd.func124.trans (congrArg some (by kernel_rfl)),
  f20 := ⟨Tryd.f130.name, by decide, Tryd.func130.trans (congrArg some (by kernel_rfl))⟩,
  f21 := ⟨Tryd.f131.name, by decide, Tryd.func131.trans (congrArg some (by kernel_rfl))⟩,
  f22 := ⟨Tryd.f132.name, by decide, Tryd.func132.trans (congrArg some (by kernel_rfl))⟩,
  f23 := ⟨Tryd.f133.name, by decide, Tryd.func133.trans (congrArg some (by kernel_rfl))⟩,
  f24 := ⟨Tryd.f134.name, by decide, Tryd.func134.trans (congrArg some (by kernel_rfl))⟩,
  f25 := ⟨Tryd.f135.name, by decide, Tryd.func135.trans (congrArg some (by kernel_rfl))⟩,
  f26 := ⟨Tryd.f136.name, by decide, Tryd.func136.trans (congrArg some (by kernel_rfl))⟩,
  f27 := ⟨Tryd.f137.name, by decide, Tryd.func137.trans (congrArg some (by kernel_rfl))⟩,
  f28 := Tryd.func138.trans (congrArg some (by kernel_rfl)),
  f29 := Tryd.func139.trans (congrArg some (by kernel_rfl)),
  f46 := ⟨Tryd.f142.name, by decide, Tryd.func142.trans (congrArg some (by kernel_rfl))⟩,
  f47 := Tryd.func143.trans (congrArg some (by kernel_rfl)),
  f48 := Tryd.func144.trans (congrArg some (by kernel_rfl)),
  f49 := ⟨Tryd.f145.name, by decide, Tryd.func145.trans (congrArg some (by kernel_rfl))⟩,
  f50 := ⟨Tryd.f146.name, by decide, Tryd.func146.trans (congrArg some (by kernel_rfl))⟩,
  f57 := ⟨Tryd.f148.name, by decide, Tryd.func148.trans (congrArg some (by kernel_rfl))⟩,
  t0 := Tryd.underlying0,
  a0 := Tryd.isAgg0,
  z0 := Tryd.sizeOf0,
  v0 := Tryd.zeroValue0,
  t3 := Tryd.underlying3,
  a3 := Tryd.isAgg3,
  z3 := Tryd.sizeOf3,
  v3 := Tryd.zeroValue3,
  t4 := Tryd.underlying4,
  a4 := Tryd.isAgg4,
  z4 := Tryd.sizeOf4,
  v4 := Tryd.zeroValue4,
  t5 := Tryd.underlying5,
  a5 := Tryd.isAgg5,
  z5 := Tryd.sizeOf5,
  v5 := Tryd.zeroValue5,
  t9 := Tryd.underlying9,
  a9 := Tryd.isAgg9,
  z9 := Tryd.sizeOf9,
  v9 := Tryd.zeroValue9,
  t22 := Tryd.underlying164,
  a22 := Tryd.isAgg164,
  z22 := Tryd.sizeOf164,
  v22 := Tryd.zeroValue164,
  t25 := Tryd.underlying171,
  a25 := Tryd.isAgg171,
  z25 := Tryd.sizeOf171,
  v25 := Tryd.zeroValue171,
  t39 := Tryd.underlying181,
  a39 := Tryd.isAgg181,
  z39 := Tryd.sizeOf181,
  v39 := Tryd.zeroValue181,
  t45 := Tryd.underlying207,
  a45 := Tryd.isAgg207,
  z45 := Tryd.sizeOf207,
  v45 := Tryd.zeroValue207,
  t46 := Tryd.underlying208,
  a46 := Tryd.isAgg208,
  z46 := Tryd.sizeOf208,
  v46 := Tryd.zeroValue208,
  t50 := Tryd.underlying191,
  a50 := Tryd.isAgg191,
  z50 := Tryd.sizeOf191,
  v50 := Tryd.zeroValue191,
  t53 := Tryd.underlying161,
  a53 := Tryd.isAgg161,
  z53 := Tryd.sizeOf161,
  v53 := Tryd.zeroValue161,
  t55 := Tryd.underlying202,
  a55 := Tryd.isAgg202,
  z55 := Tryd.sizeOf202,
  v55 := Tryd.zeroValue202,
  t66 := Tryd.underlying216,
  a66 := Tryd.isAgg216,
  z66 := Tryd.sizeOf216,
  v66 := Tryd.zeroValue216,
  t70 := Tryd.underlying85,
  a70 := Tryd.isAgg85,
  z70 := Tryd.sizeOf85,
  v70 := Tryd.zeroValue85,
  t76 := Tryd.underlying221,
  a76 := Tryd.isAgg221,
  z76 := Tryd.sizeOf221,
  v76 := Tryd.zeroValue221,
  t77 := Tryd.underlying222,
  a77 := Tryd.isAgg222,
  z77 := Tryd.sizeOf222,
  v77 := Tryd.zeroValue222 }
end Go.Proofs.YtnlpeiffbnlncaaDoor

/- Plain: the order of lists of ints. No program is named here. -/
namespace Go.Proofs.YtnlpeiffbnlncaaDoor
open Go.RowKit
set_option linter.unusedVariables false

def cmpL : List Int → List Int → Int
  | [], [] => 0
  | [], _ :: _ => -1
  | _ :: _, [] => 1
  | x :: xs, y :: ys => if x < y then -1 else if y < x then 1 else cmpL xs ys
end Go.Proofs.YtnlpeiffbnlncaaDoor

/- Lists alike up to a place. -/
namespace Go.Proofs.YtnlpeiffbnlncaaDoor
open Go.RowKit
set_option linter.unusedVariables false

theorem take_ne {α : Type} {xs ys : List α} {k : Nat} {x y : α} (hx : xs[k]? = some x) (hy : ys[k]? = some y) (h : x ≠ y) : xs ≠ ys := by
  rintro rfl; rw [hx] at hy; exact h (by injection hy)
theorem take_eq {α : Type} {xs ys : List α} {k : Nat} {x y : α} (hx : xs[k]? = some x) (hy : ys[k]? = some y) (h : x = y) (ht : xs.take k = ys.take k) : xs.take (k + 1) = ys.take (k + 1) := by
  rw [take_snoc hx, take_snoc hy, ht, h]
theorem take_all {α : Type} {xs ys : List α} {k : Nat} (hl : xs.length = ys.length) (hk : xs.length ≤ k) (ht : xs.take k = ys.take k) : xs = ys := by
  rwa [List.take_of_length_le hk, List.take_of_length_le (by omega)] at ht
end Go.Proofs.YtnlpeiffbnlncaaDoor

/- The plain law of core.Count's visit: what the rows of states and counts are on the way. No program is named here. -/
namespace Go.Proofs.YtnlpeiffbnlncaaDoor
set_option linter.unusedVariables false

def gd (l : List Int) (u : Nat) : Int := l.getD u 0
theorem gd_set (l : List Int) (i : Nat) (x : Int) (j : Nat) (hi : i < l.length) : gd (l.set i x) j = if j = i then x else gd l j := by
  unfold gd
  rw [List.getD_eq_getElem?_getD, List.getElem?_set, List.getD_eq_getElem?_getD]
  by_cases e : i = j
  · subst e; simp [hi]
  · rw [if_neg e, if_neg (fun h => e h.symm)]
theorem gd_get {l : List Int} {i : Nat} {x : Int} (h : l[i]? = some x) : gd l i = x := by
  unfold gd
  rw [List.getD_eq_getElem?_getD, h]
  rfl
theorem gd_some {l : List Int} {i : Nat} (h : i < l.length) : l[i]? = some (gd l i) := by
  unfold gd
  rw [List.getD_eq_getElem?_getD, List.getElem?_eq_getElem h]
  rfl
def zeros (l : List Int) : Nat := (l.filter fun x => decide (x = 0)).length
theorem zeros_set : ∀ (l : List Int) (i : Nat) (x : Int), gd l i = 0 → i < l.length → x ≠ 0 → zeros (l.set i x) < zeros l
  | [], i, x, _, h, _ => by simp at h
  | a :: l, 0, x, h, _, hx => by
    have h : a = 0 := h
    subst h
    simp [zeros, hx]
  | a :: l, i + 1, x, h, hl, hx => by
    have ih := zeros_set l i x h (by simpa using hl) hx
    by_cases ha : a = 0
    · simp [zeros, ha] at ih ⊢; omega
    · simp [zeros, ha] at ih ⊢; exact ih
theorem zeros_le : ∀ (l : List Int) (i : Nat) (x : Int), x ≠ 0 → zeros (l.set i x) ≤ zeros l
  | [], i, x, _ => by simp
  | a :: l, 0, x, hx => by
    by_cases ha : a = 0
    · simp [zeros, ha, hx]
    · simp [zeros, ha, hx]
  | a :: l, i + 1, x, hx => by
    have ih := zeros_le l i x hx
    by_cases ha : a = 0
    · simp [zeros, ha] at ih ⊢; omega
    · simp [zeros, ha] at ih ⊢; exact ih
def cnF (cn : List Int) : Nat → Nat := fun k => (gd cn k).toNat
theorem prodM_congr {f f' : Nat → Nat} : ∀ (l : List Int) (x : Nat), (∀ k ∈ l, f k.toNat = f' k.toNat) → prodM f x l = prodM f' x l
  | [], x, _ => rfl
  | k :: l, x, h => by
    show prodM f (min (x * f k.toNat) lim) l = prodM f' (min (x * f' k.toNat) lim) l
    rw [h k (by simp), prodM_congr l _ (fun j hj => h j (by simp [hj]))]
theorem sumM_congr {f f' : Nat → Nat} : ∀ (J : List (List Int)) (x : Nat), (∀ l ∈ J, ∀ k ∈ l, f k.toNat = f' k.toNat) → sumM f x J = sumM f' x J
  | [], x, _ => rfl
  | l :: J, x, h => by
    show sumM f (min (x + prodM f 1 l) lim) J = sumM f' (min (x + prodM f' 1 l) lim) J
    rw [prodM_congr l 1 (h l (by simp)), sumM_congr J _ (fun j hj => h j (by simp [hj]))]
theorem prodM_snoc (f : Nat → Nat) (x : Nat) (l : List Int) (k : Int) : prodM f x (l ++ [k]) = min (prodM f x l * f k.toNat) lim := by
  unfold prodM
  rw [List.foldl_append]
  rfl
theorem sumM_snoc (f : Nat → Nat) (x : Nat) (J : List (List Int)) (l : List Int) : sumM f x (J ++ [l]) = min (sumM f x J + prodM f 1 l) lim := by
  unfold sumM
  rw [List.foldl_append]
  rfl
theorem prodM_le (f : Nat → Nat) (l : List Int) : prodM f 1 l ≤ lim := by
  have key : ∀ (l : List Int) (x : Nat), x ≤ lim → prodM f x l ≤ lim := by
    intro l
    induction l with
    | nil => intro x h; exact h
    | cons k l ih => intro x _; exact ih _ (Nat.min_le_right _ _)
  exact key l 1 (by decide)
theorem sumM_le (f : Nat → Nat) (x : Nat) (J : List (List Int)) (hx : x ≤ lim) : sumM f x J ≤ lim := by
  induction J generalizing x with
  | nil => exact hx
  | cons l J ih => exact ih _ (Nat.min_le_right _ _)

/-- The rows: 0 not yet, 1 begun, 2 done. -/
structure StI (F : List FNode) (st cn : List Int) : Prop where
  sl : st.length = F.length
  cl : cn.length = F.length
  at_ : ∀ u, u < F.length → (gd st u = 0 ∧ gd cn u = 0 ∨ gd st u = 1 ∨ gd st u = 2 ∧ Cn F u (gd cn u).toNat) ∧ 0 ≤ gd cn u ∧ gd cn u ≤ 1000000000
/-- What a visit that ends well changes. -/
structure Mv (F : List FNode) (st cn st' cn' : List Int) : Prop where
  ok : StI F st' cn'
  one : ∀ u, u < F.length → (gd st' u = 1 ↔ gd st u = 1)
  two : ∀ u, u < F.length → gd st u = 2 → gd st' u = 2 ∧ gd cn' u = gd cn u
  onec : ∀ u, u < F.length → gd st u = 1 → gd cn' u = gd cn u
  zer : zeros st' ≤ zeros st
theorem Mv.refl {F : List FNode} {st cn : List Int} (h : StI F st cn) : Mv F st cn st cn := ⟨h, fun _ _ => Iff.rfl, fun _ _ h => ⟨h, rfl⟩, fun _ _ _ => rfl, Nat.le_refl _⟩
/-- Within a visit of v: the packs J are done. -/
structure InV (F : List FNode) (st cn : List Int) (v init : Nat) (J : List (List Int)) (st' cn' : List Int) : Prop where
  ok : StI F st' cn'
  one : ∀ u, u < F.length → (gd st' u = 1 ↔ gd st u = 1 ∨ u = v)
  two : ∀ u, u < F.length → gd st u = 2 → gd st' u = 2 ∧ gd cn' u = gd cn u
  onec : ∀ u, u < F.length → gd st u = 1 → gd cn' u = gd cn u
  zer : zeros st' < zeros st
  cnv : gd cn' v = ((sumM (cnF cn') init J : Nat) : Int)
  done : ∀ l ∈ J, ∀ k ∈ l, gd st' k.toNat = 2
  v0 : gd st v = 0
  vl : v < F.length
theorem InV.begin {F : List FNode} {st cn : List Int} (h : StI F st cn) {v : Nat} (hv : v < F.length) (h0 : gd st v = 0) (t : Bool) : InV F st cn v (if t then 1 else 0) [] (st.set v 1) (if t then cn.set v 1 else cn) := by
  have hs : v < st.length := by rw [h.sl]; exact hv
  have hc : v < cn.length := by rw [h.cl]; exact hv
  have hz : gd cn v = 0 := by
    rcases (h.at_ v hv).1 with h1 | h1 | h1
    · exact h1.2
    · omega
    · omega
  have e1 : ∀ u, gd (st.set v 1) u = if u = v then 1 else gd st u := fun u => gd_set st v 1 u hs
  have e2 : ∀ u, gd (if t then cn.set v 1 else cn) u = if u = v then (if t then 1 else 0) else gd cn u := fun u => by
    cases t
    · simp only [Bool.false_eq_true, if_false]
      split
      · rename_i e; rw [e, hz]
      · rfl
    · simp only [if_true]
      exact gd_set cn v 1 u hc
  refine ⟨⟨by rw [List.length_set]; exact h.sl, by cases t <;> simp [h.cl], fun u hu => ?_⟩, fun u hu => ?_, fun u hu h2 => ?_, fun u hu h2 => ?_, zeros_set st v 1 h0 hs (by decide), ?_, by simp, h0, hv⟩
  · rw [e1, e2]
    by_cases e : u = v
    · rw [if_pos e, if_pos e]
      cases t <;> simp
    · rw [if_neg e, if_neg e]; exact h.at_ u hu
  · rw [e1]
    by_cases e : u = v
    · simp [e]
    · simp [e]
  · rw [e1, e2]
    have e : u ≠ v := fun e => by rw [e, h0] at h2; cases h2
    rw [if_neg e, if_neg e]; exact ⟨h2, rfl⟩
  · rw [e2]
    have e : u ≠ v := fun e => by rw [e, h0] at h2; cases h2
    rw [if_neg e]
  · rw [e2, if_pos rfl]
    cases t <;> rfl
/-- A kid has been visited. -/
theorem InV.kid {F : List FNode} {st cn st1 cn1 st2 cn2 : List Int} {v init : Nat} {J : List (List Int)} (h : InV F st cn v init J st1 cn1) (hk : ∀ l ∈ J, ∀ k ∈ l, k.toNat < F.length) (m : Mv F st1 cn1 st2 cn2) : InV F st cn v init J st2 cn2 := by
  refine ⟨m.ok, fun u hu => (m.one u hu).trans (h.one u hu), fun u hu h2 => ?_, fun u hu h1 => ?_, Nat.lt_of_le_of_lt m.zer h.zer, ?_, fun l hl k hkl => ?_, h.v0, h.vl⟩
  · obtain ⟨a, b⟩ := h.two u hu h2
    obtain ⟨c, d⟩ := m.two u hu a
    exact ⟨c, d.trans b⟩
  · rw [m.onec u hu ((h.one u hu).2 (.inl h1))]; exact h.onec u hu h1
  · rw [m.onec v h.vl ((h.one v h.vl).2 (.inr rfl)), h.cnv]
    rw [sumM_congr J init (fun l hl k hkl => ?_)]
    unfold cnF
    rw [(m.two k.toNat (hk l hl k hkl) (h.done l hl k hkl)).2]
  · exact (m.two k.toNat (hk l hl k hkl) (h.done l hl k hkl)).1
/-- A pack is done. -/
theorem InV.pack {F : List FNode} {st cn st1 cn1 : List Int} {v init : Nat} {J : List (List Int)} (h : InV F st cn v init J st1 cn1) (hk : ∀ l ∈ J, ∀ k ∈ l, k.toNat < F.length) (l : List Int) (hl : ∀ k ∈ l, k.toNat < F.length ∧ gd st1 k.toNat = 2) (x : Int) (hx : x = ((min (sumM (cnF cn1) init J + prodM (cnF cn1) 1 l) lim : Nat) : Int)) : InV F st cn v init (J ++ [l]) st1 (cn1.set v x) := by
  have hc : v < cn1.length := by rw [h.ok.cl]; exact h.vl
  have e2 : ∀ u, gd (cn1.set v x) u = if u = v then x else gd cn1 u := fun u => gd_set cn1 v x u hc
  have hv1 : gd st1 v = 1 := (h.one v h.vl).2 (.inr rfl)
  have hne : ∀ u, gd st1 u = 2 → u ≠ v := fun u h2 e => by rw [e, hv1] at h2; cases h2
  have hcong : ∀ k : Int, gd st1 k.toNat = 2 → cnF (cn1.set v x) k.toNat = cnF cn1 k.toNat := fun k h2 => by
    unfold cnF
    rw [e2, if_neg (hne _ h2)]
  refine ⟨⟨h.ok.sl, by rw [List.length_set]; exact h.ok.cl, fun u hu => ?_⟩, h.one, fun u hu h2 => ?_, fun u hu h1 => ?_, h.zer, ?_, fun l' hl' k hkl => ?_, h.v0, h.vl⟩
  · rw [e2]
    by_cases e : u = v
    · rw [if_pos e]
      refine ⟨.inr (.inl (by rw [e]; exact hv1)), by rw [hx]; omega, by rw [hx]; have : min (sumM (cnF cn1) init J + prodM (cnF cn1) 1 l) lim ≤ lim := Nat.min_le_right _ _; have e3 : lim = 1000000000 := rfl; omega⟩
    · rw [if_neg e]; exact h.ok.at_ u hu
  · obtain ⟨a, b⟩ := h.two u hu h2
    rw [e2, if_neg (hne u a)]
    exact ⟨a, b⟩
  · have e : u ≠ v := fun e => by rw [e, h.v0] at h1; cases h1
    rw [e2, if_neg e]; exact h.onec u hu h1
  · rw [e2, if_pos rfl, sumM_snoc, sumM_congr J init (fun l' hl' k hkl => hcong k (h.done l' hl' k hkl)), prodM_congr l 1 (fun k hkl => hcong k (hl k hkl).2)]
    exact hx
  · rcases List.mem_append.1 hl' with hl' | hl'
    · exact h.done l' hl' k hkl
    · simp at hl'; subst hl'; exact (hl k hkl).2
/-- The node is done. -/
theorem InV.end_ {F : List FNode} {st cn st1 cn1 : List Int} {v : Nat} {nd : FNode} (hnd : F[v]? = some nd) (h : InV F st cn v (if nd.sym.term then 1 else 0) (nd.packs.map (·.kids)) st1 cn1) (hk : ∀ p ∈ nd.packs, ∀ k ∈ p.kids, k.toNat < F.length) : Mv F st cn (st1.set v 2) cn1 ∧ gd (st1.set v 2) v = 2 := by
  have hs : v < st1.length := by rw [h.ok.sl]; exact h.vl
  have e1 : ∀ u, gd (st1.set v 2) u = if u = v then 2 else gd st1 u := fun u => gd_set st1 v 2 u hs
  have hcn : Cn F v (gd cn1 v).toNat := by
    have h1 := Cn.mk v nd (cnF cn1) hnd (fun p hp k hkp => by
      have h2 := h.done p.kids (List.mem_map.2 ⟨p, hp, rfl⟩) k hkp
      rcases (h.ok.at_ k.toNat (hk p hp k hkp)).1 with h3 | h3 | h3
      · omega
      · omega
      · exact h3.2)
    rw [h.cnv, Int.toNat_natCast]
    exact h1
  refine ⟨⟨⟨by rw [List.length_set]; exact h.ok.sl, h.ok.cl, fun u hu => ?_⟩, fun u hu => ?_, fun u hu h2 => ?_, h.onec, Nat.le_trans (zeros_le st1 v 2 (by decide)) (Nat.le_of_lt h.zer)⟩, by rw [e1, if_pos rfl]⟩
  · rw [e1]
    by_cases e : u = v
    · rw [if_pos e, e]; exact ⟨.inr (.inr ⟨rfl, hcn⟩), (h.ok.at_ v h.vl).2⟩
    · rw [if_neg e]; exact h.ok.at_ u hu
  · rw [e1]
    by_cases e : u = v
    · rw [if_pos e, e, h.v0]; simp
    · rw [if_neg e, h.one u hu]; simp [e]
  · rw [e1]
    have e : u ≠ v := fun e => by rw [e, h.v0] at h2; cases h2
    rw [if_neg e]
    exact h.two u hu h2
theorem StI.init (F : List FNode) : StI F (List.replicate F.length 0) (List.replicate F.length 0) := by
  have e : ∀ u, gd (List.replicate F.length 0) u = 0 := fun u => by
    unfold gd
    rw [List.getD_eq_getElem?_getD, List.getElem?_replicate]
    split <;> rfl
  exact ⟨by simp, by simp, fun u hu => by rw [e]; simp⟩
end Go.Proofs.YtnlpeiffbnlncaaDoor

/- The plain laws of closed.Star, Concat and Put: which words the combined grammars have. No program is named here. -/
namespace Go.Proofs.YtnlpeiffbnlncaaDoor
set_option linter.unusedVariables false

/-- Symbols go over into symbols, terminals into words. -/
theorem DerW.subst {g g' : Gram} (f : Sym → Sym) (σ : Int → List Int) (hT : ∀ n, DerW g' [f ⟨true, n⟩] (σ n)) (hN : ∀ q ∈ g.rules, ∃ q' ∈ g'.rules, f ⟨false, q.left⟩ = ⟨false, q'.left⟩ ∧ q'.right = q.right.map f) {ss : List Sym} {u : List Int} (h : DerW g ss u) : DerW g' (ss.map f) (u.flatMap σ) := by
  induction h with
  | nil => exact .nil
  | term n ss u _ ih =>
    rw [List.map_cons, List.flatMap_cons]
    exact DerW.append (ss := [f ⟨true, n⟩]) (hT n) ih
  | non q ss u v hq _ _ ih1 ih2 =>
    obtain ⟨q', hq', e1, e2⟩ := hN q hq
    rw [List.map_cons, List.flatMap_append, e1]
    exact .non q' _ _ _ hq' (by rw [e2]; exact ih1) ih2
theorem flatMap_one : ∀ (u : List Int), (u.flatMap fun x => [x]) = u
  | [] => rfl
  | x :: u => by rw [List.flatMap_cons, flatMap_one u]; rfl
theorem DerW.map {g g' : Gram} (f : Sym → Sym) (hT : ∀ n, f ⟨true, n⟩ = ⟨true, n⟩) (hN : ∀ q ∈ g.rules, ∃ q' ∈ g'.rules, f ⟨false, q.left⟩ = ⟨false, q'.left⟩ ∧ q'.right = q.right.map f) {ss : List Sym} {u : List Int} (h : DerW g ss u) : DerW g' (ss.map f) u := by
  have := DerW.subst f (fun x => [x]) (fun n => by rw [hT]; exact .term n [] [] .nil) hN h
  rwa [flatMap_one] at this
/-- And back, where the rules of what comes of a symbol are the symbol's own. -/
theorem DerW.unmap {g g' : Gram} (f : Sym → Sym) (P : Sym → Prop) (hT : ∀ s n, P s → f s = ⟨true, n⟩ → s = ⟨true, n⟩) (hN : ∀ q' ∈ g'.rules, ∀ s, P s → f s = ⟨false, q'.left⟩ → ∃ q ∈ g.rules, s = ⟨false, q.left⟩ ∧ q'.right = q.right.map f ∧ ∀ x ∈ q.right, P x) {ss' : List Sym} {u : List Int} (h : DerW g' ss' u) :
    ∀ ss, ss' = ss.map f → (∀ s ∈ ss, P s) → DerW g ss u := by
  induction h with
  | nil =>
    intro ss e _
    cases ss with
    | nil => exact .nil
    | cons s ss => simp at e
  | term n rr u _ ih =>
    intro ss e hP
    cases ss with
    | nil => simp at e
    | cons s ss =>
      rw [List.map_cons] at e
      injection e with e1 e2
      rw [hT s n (hP s (by simp)) e1.symm]
      exact .term n _ _ (ih ss e2 (fun x hx => hP x (by simp [hx])))
  | non q' rr u v hq _ _ ih1 ih2 =>
    intro ss e hP
    cases ss with
    | nil => simp at e
    | cons s ss =>
      rw [List.map_cons] at e
      injection e with e1 e2
      obtain ⟨q, hq1, rfl, hq2, hq3⟩ := hN q' hq s (hP s (by simp)) e1.symm
      exact .non q _ _ _ hq1 (ih1 q.right hq2 hq3) (ih2 ss e2 (fun x hx => hP x (by simp [hx])))

/-! ### Shifting nonterminals -/
def shS (k : Int) (s : Sym) : Sym := if s.term then s else ⟨false, s.n + k⟩
def shR (k : Int) (q : Rule) : Rule := ⟨q.left + k, q.right.map (shS k)⟩
def NonIn (n : Int) (s : Sym) : Prop := s.term = false → 0 ≤ s.n ∧ s.n < n
/-- The rules are of the nonterminals 0 .. n-1. -/
def InN (g : Gram) (n : Int) : Prop := ∀ q ∈ g.rules, (0 ≤ q.left ∧ q.left < n) ∧ ∀ s ∈ q.right, NonIn n s
theorem shS_term (k n : Int) : shS k ⟨true, n⟩ = ⟨true, n⟩ := by simp [shS]
theorem shS_non (k n : Int) : shS k ⟨false, n⟩ = ⟨false, n + k⟩ := by simp [shS]
/-- A grammar whose rules with a left side among k .. k+n-1 are the shifted ones of g. -/
structure Part (g g' : Gram) (k n : Int) : Prop where
  there : ∀ q ∈ g.rules, shR k q ∈ g'.rules
  back : ∀ q' ∈ g'.rules, k ≤ q'.left → q'.left < k + n → ∃ q ∈ g.rules, q' = shR k q
theorem Part.der {g g' : Gram} {k n : Int} (h : Part g g' k n) (hg : InN g n) {a : Int} (ha : 0 ≤ a) (han : a < n) (u : List Int) : DerW g' [⟨false, a + k⟩] u ↔ DerW g [⟨false, a⟩] u := by
  constructor
  · intro hd
    refine DerW.unmap (shS k) (NonIn n) (fun s m hs e => ?_) (fun q' hq' s hs e => ?_) hd [⟨false, a⟩] (by simp [shS]) (fun s hs => ?_)
    · obtain ⟨st, sn⟩ := s
      cases st
      · rw [shS_non] at e; injection e with e _; cases e
      · rw [shS_term] at e; exact e
    · obtain ⟨st, sn⟩ := s
      cases st
      · rw [shS_non] at e
        injection e with _ e
        have h1 := hs rfl
        dsimp only at h1
        obtain ⟨q, hq, rfl⟩ := h.back q' hq' (by omega) (by omega)
        refine ⟨q, hq, ?_, rfl, (hg q hq).2⟩
        have e' : sn + k = q.left + k := e
        rw [show sn = q.left by omega]
      · rw [shS_term] at e; injection e with e _; cases e
    · simp at hs
      subst hs
      exact fun _ => ⟨ha, han⟩
  · intro hd
    have := DerW.map (g' := g') (shS k) (shS_term k) (fun q hq => ⟨shR k q, h.there q hq, shS_non k q.left, rfl⟩) hd
    simpa [shS] using this

/-! ### Star -/
def starG (a : Gram) : Gram := ⟨a.terms, a.nons + 1, a.nons, a.rules.map (shR 0) ++ [⟨a.nons, []⟩, ⟨a.nons, [⟨false, a.nons⟩, ⟨false, a.start⟩]⟩]⟩
def StarW (a : Gram) (w : List Int) : Prop := w = [] ∨ ∃ k, k < w.length ∧ DerW (starG a) [⟨false, a.nons⟩] (w.take k) ∧ DerW a [⟨false, a.start⟩] (w.drop k)
theorem star_part {a : Gram} (ha : InN a a.nons) : Part a (starG a) 0 a.nons := by
  refine ⟨fun q hq => ?_, fun q' hq' h1 h2 => ?_⟩
  · unfold starG
    exact List.mem_append_left _ (List.mem_map_of_mem hq)
  · unfold starG at hq'
    rcases List.mem_append.1 hq' with h | h
    · obtain ⟨q, hq, rfl⟩ := List.mem_map.1 h
      exact ⟨q, hq, rfl⟩
    · simp at h
      rcases h with rfl | rfl
      · dsimp only at h2; omega
      · dsimp only at h2; omega
theorem star_to {a : Gram} (ha : InN a a.nons) (hs : 0 ≤ a.start ∧ a.start < a.nons) {ss : List Sym} {u : List Int} (h : DerW (starG a) ss u) : ∀ rest, ss = ⟨false, a.nons⟩ :: rest → ∃ v x, u = v ++ x ∧ DerW (starG a) [⟨false, a.nons⟩] v ∧ StarW a v ∧ DerW (starG a) rest x := by
  induction h with
  | nil => intro rest e; simp at e
  | term n ss u _ _ => intro rest e; injection e with e _; injection e with e _; cases e
  | non q ss u v hq h1 h2 ih1 ih2 =>
    intro rest e
    injection e with e1 e2
    injection e1 with _ e1
    subst e2
    refine ⟨u, v, rfl, ?_, ?_, h2⟩
    · have := DerW.non q [] u [] hq h1 .nil
      rw [List.append_nil, e1] at this
      exact this
    · unfold starG at hq
      rcases List.mem_append.1 hq with hm | hm
      · obtain ⟨q0, hq0, rfl⟩ := List.mem_map.1 hm
        have := (ha q0 hq0).1
        unfold shR at e1
        dsimp only at e1
        omega
      · simp at hm
        rcases hm with rfl | rfl
        · cases h1
          exact .inl rfl
        · obtain ⟨v', x, rfl, d1, d2, d3⟩ := ih1 [⟨false, a.start⟩] rfl
          have d4 : DerW a [⟨false, a.start⟩] x := by
            have := (star_part ha).der ha hs.1 hs.2 x
            rw [Int.add_zero] at this
            exact this.1 d3
          by_cases hx : x = []
          · subst hx
            rw [List.append_nil]
            exact d2
          · refine .inr ⟨v'.length, ?_, ?_, ?_⟩
            · rw [List.length_append]
              have : 0 < x.length := List.length_pos_iff.2 hx
              omega
            · rw [List.take_left]; exact d1
            · rw [List.drop_left]; exact d4
theorem star_iff {a : Gram} (ha : InN a a.nons) (hs : 0 ≤ a.start ∧ a.start < a.nons) (w : List Int) : DerW (starG a) [⟨false, a.nons⟩] w ↔ StarW a w := by
  constructor
  · intro h
    obtain ⟨v, x, rfl, _, h2, h3⟩ := star_to ha hs h [] rfl
    cases h3
    rw [List.append_nil]
    exact h2
  · rintro (rfl | ⟨k, hk, h1, h2⟩)
    · exact DerW.one.2 ⟨⟨a.nons, []⟩, by simp [starG], rfl, .nil⟩
    · refine DerW.one.2 ⟨⟨a.nons, [⟨false, a.nons⟩, ⟨false, a.start⟩]⟩, by simp [starG], rfl, ?_⟩
      have h3 : DerW (starG a) [⟨false, a.start⟩] (w.drop k) := by
        have := (star_part ha).der ha hs.1 hs.2 (w.drop k)
        rw [Int.add_zero] at this
        exact this.2 h2
      have := DerW.append h1 h3
      rwa [List.take_append_drop] at this

/-! ### Concat -/
def concatG (a b : Gram) : Gram := ⟨a.terms, a.nons + b.nons + 1, a.nons + b.nons, a.rules.map (shR 0) ++ b.rules.map (shR a.nons) ++ [⟨a.nons + b.nons, [⟨false, a.start⟩, ⟨false, a.nons + b.start⟩]⟩]⟩
theorem concat_part1 {a b : Gram} (ha : InN a a.nons) (hb : InN b b.nons) (hn : 0 ≤ b.nons) : Part a (concatG a b) 0 a.nons := by
  refine ⟨fun q hq => ?_, fun q' hq' h1 h2 => ?_⟩
  · unfold concatG
    exact List.mem_append_left _ (List.mem_append_left _ (List.mem_map_of_mem hq))
  · unfold concatG at hq'
    rcases List.mem_append.1 hq' with h | h
    · rcases List.mem_append.1 h with h | h
      · obtain ⟨q, hq, rfl⟩ := List.mem_map.1 h
        exact ⟨q, hq, rfl⟩
      · obtain ⟨q, hq, rfl⟩ := List.mem_map.1 h
        have := (hb q hq).1
        unfold shR at h2
        dsimp only at h2
        omega
    · simp at h
      subst h
      dsimp only at h2
      omega
theorem concat_part2 {a b : Gram} (ha : InN a a.nons) (hb : InN b b.nons) : Part b (concatG a b) a.nons b.nons := by
  refine ⟨fun q hq => ?_, fun q' hq' h1 h2 => ?_⟩
  · unfold concatG
    exact List.mem_append_left _ (List.mem_append_right _ (List.mem_map_of_mem hq))
  · unfold concatG at hq'
    rcases List.mem_append.1 hq' with h | h
    · rcases List.mem_append.1 h with h | h
      · obtain ⟨q, hq, rfl⟩ := List.mem_map.1 h
        have := (ha q hq).1
        unfold shR at h1
        dsimp only at h1
        omega
      · obtain ⟨q, hq, rfl⟩ := List.mem_map.1 h
        exact ⟨q, hq, rfl⟩
    · simp at h
      subst h
      dsimp only at h2
      omega
theorem concat_iff {a b : Gram} (ha : InN a a.nons) (hb : InN b b.nons) (hsa : 0 ≤ a.start ∧ a.start < a.nons) (hsb : 0 ≤ b.start ∧ b.start < b.nons) (w : List Int) :
    DerW (concatG a b) [⟨false, a.nons + b.nons⟩] w ↔ ∃ k, k ≤ w.length ∧ DerW a [⟨false, a.start⟩] (w.take k) ∧ DerW b [⟨false, b.start⟩] (w.drop k) := by
  have p1 := fun u => (concat_part1 ha hb (by omega)).der ha hsa.1 hsa.2 u
  have p2 := fun u => (concat_part2 ha hb).der hb hsb.1 hsb.2 u
  constructor
  · intro h
    obtain ⟨q, hq, hl, hd⟩ := DerW.one.1 h
    unfold concatG at hq
    rcases List.mem_append.1 hq with hm | hm
    · rcases List.mem_append.1 hm with hm | hm
      · obtain ⟨q0, hq0, rfl⟩ := List.mem_map.1 hm
        have := (ha q0 hq0).1
        unfold shR at hl
        dsimp only at hl
        omega
      · obtain ⟨q0, hq0, rfl⟩ := List.mem_map.1 hm
        have := (hb q0 hq0).1
        unfold shR at hl
        dsimp only at hl
        omega
    · simp at hm
      subst hm
      obtain ⟨v, x, rfl, h1, h2⟩ := DerW.cons2.1 hd
      refine ⟨v.length, by simp, ?_, ?_⟩
      · rw [List.take_left]
        have := p1 v
        rw [Int.add_zero] at this
        exact this.1 h1
      · rw [List.drop_left]
        have := p2 x
        rw [Int.add_comm] at this
        exact this.1 h2
  · rintro ⟨k, hk, h1, h2⟩
    refine DerW.one.2 ⟨⟨a.nons + b.nons, [⟨false, a.start⟩, ⟨false, a.nons + b.start⟩]⟩, by simp [concatG], rfl, ?_⟩
    have h3 := p1 (w.take k)
    rw [Int.add_zero] at h3
    have h4 := p2 (w.drop k)
    rw [Int.add_comm b.start] at h4
    have := DerW.append (h3.2 h1) (h4.2 h2)
    rwa [List.take_append_drop] at this

/-! ### Put -/
def putS (t m : Int) (s : Sym) : Sym := if s = ⟨true, t⟩ then ⟨false, m⟩ else s
def putR (t m : Int) (q : Rule) : Rule := ⟨q.left, q.right.map (putS t m)⟩
def putG (a : Gram) (t : Int) (b : Gram) : Gram := ⟨a.terms, a.nons + b.nons, a.start, (a.rules.map (shR 0)).map (putR t (a.nons + b.start)) ++ b.rules.map (shR a.nons)⟩
theorem put_part2 {a b : Gram} (t : Int) (ha : InN a a.nons) (hb : InN b b.nons) : Part b (putG a t b) a.nons b.nons := by
  refine ⟨fun q hq => ?_, fun q' hq' h1 h2 => ?_⟩
  · unfold putG
    exact List.mem_append_right _ (List.mem_map_of_mem hq)
  · unfold putG at hq'
    rcases List.mem_append.1 hq' with h | h
    · obtain ⟨q1, hq1, rfl⟩ := List.mem_map.1 h
      obtain ⟨q, hq, rfl⟩ := List.mem_map.1 hq1
      have := (ha q hq).1
      unfold putR shR at h1
      dsimp only at h1
      omega
    · obtain ⟨q, hq, rfl⟩ := List.mem_map.1 h
      exact ⟨q, hq, rfl⟩
theorem put_der {a b : Gram} {t : Int} (ha : InN a a.nons) (hb : InN b b.nons) (hsb : 0 ≤ b.start ∧ b.start < b.nons) {y u : List Int} (hu : DerW b [⟨false, b.start⟩] u) (hy : DerW a [⟨false, a.start⟩] y) :
    DerW (putG a t b) [⟨false, a.start⟩] (y.flatMap fun x => if x = t then u else [x]) := by
  have h1 : DerW (putG a t b) [⟨false, a.nons + b.start⟩] u := by
    have := (put_part2 t ha hb).der hb hsb.1 hsb.2 u
    rw [Int.add_comm] at this
    exact this.2 hu
  have h2 := DerW.subst (g' := putG a t b) (fun s => putS t (a.nons + b.start) (shS 0 s)) (fun x => if x = t then u else [x]) (fun n => by
    rw [shS_term]
    unfold putS
    by_cases e : n = t
    · subst e; simp [h1]
    · rw [if_neg (by simp [e]), if_neg e]
      exact .term n [] [] .nil) (fun q hq => ⟨putR t (a.nons + b.start) (shR 0 q), by unfold putG; exact List.mem_append_left _ (List.mem_map_of_mem (List.mem_map_of_mem hq)), by rw [shS_non]; simp [putS, putR, shR], by simp [putR, shR]⟩) hy
  simpa [shS, putS] using h2
end Go.Proofs.YtnlpeiffbnlncaaDoor

