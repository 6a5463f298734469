/- Plain facts and definitions of this proof, of several texts joined: Short, IntCells, StabP, SortKLay, CmpL, Take, CntV, ClosedP, RuleB, PutL, RevP, MirP, Backward, TurnT, RoundReg, TreeRow, MirD. -/
import Derived.Test.YtnlpeiffbnlncaaDoorQp1
import Derived.StillTailTactics
import Derived.Laws.CopyOwn
import Derived.Deep.OwnRows
import Derived.IntWalk
import Derived.Laws.EntriesVeiled
import Derived.BigRegion
import Derived.Shelf.SlSortCmp.WholeK
import Derived.Test.YtnlpeiffbnlncaaDoorChecked
import Derived.RangeFuncNested
import Derived.RangeFuncBox
import Derived.RangeFuncLeaves
import Derived.Shelf.Abstract
import Derived.WalkKit
import Derived.OwnWalkIn
import Derived.TacticsInMore
import Derived.LoopNIn
import Derived.LoopIn
import Derived.RangeFuncOwn
import Derived.RangeFuncFrom
import Derived.RangeFuncCalls
import Derived.OrdersIn
import Derived.TacticsIn
import Derived.Deep.Cut
import Derived.Deep.DeepCutAuto
import Derived.BigQuiet
import Derived.Deep.QuietTactic
import Derived.Deep.RegionHeld3
import Derived.Deep.RegionLaw
/- Steps of a region that draws its order, with their checks by themselves. No program is named here. -/
namespace Go.Proofs.YtnlpeiffbnlncaaDoor
open Go.RowKit
set_option linter.unusedVariables false

theorem sA {α : Type} {i : Nat} {a : α} {l : List α} : l.toArray.setIfInBounds i a = (l.set i a).toArray := List.setIfInBounds_toArray ..
theorem sB {α : Type} {x a : α} {l : List α} : (x :: l).set 0 a = a :: l := rfl
theorem sC {α : Type} {x a : α} {n : Nat} {l : List α} : (x :: l).set (n + 1) a = x :: l.set n a := rfl
section
variable {P : Program} {l : List Oper} {Q : Exit → Act → World → Prop} {md : Region.Mode} {S : World → Prop}
theorem tk (i : Nat) {oi : Oper} {rest : List Oper} {v : Value} {fuel : Nat} {listed : Array Bool} {a : Act} {w : World} (hi : l.drop i = oi :: rest)
    (hy : ∀ w, S w → (execOp a.eval oi).run P w = .ok (.value v) w)
    (h : wpAnyH P md l.toArray Q S fuel (listed.setIfInBounds i true) (a.put oi.dst v) w)
    (hs : Region.noSelect l.toArray = true := by kernel_rfl) (hf : Region.free md l.toArray listed i = true := by kernel_rfl) (hr : (Region.ready md l.toArray listed).contains i = true := by kernel_rfl)
    (hQ : ∀ c a w, Q (.panic c) (a.put oi.dst v) w → Q (.panic c) a w := by exact fun _ _ _ h => h) (hw : Region.wanted oi (yielded l.toArray a.tmps) = true := by rfl) (hS : S w := by assumption) : wpAnyH P md l.toArray Q S (fuel + 1) listed a w :=
  take_run hi hs hf hr hQ hw hy hS h
theorem tb (i : Nat) {oi : Oper} {rest : List Oper} {fuel : Nat} {listed : Array Bool} {a : Act} {w : World} (hi : l.drop i = oi :: rest)
    (h : wpAnyH P md l.toArray Q S fuel (listed.setIfInBounds i true) (a.put oi.dst undef) w)
    (hs : Region.noSelect l.toArray = true := by kernel_rfl) (hf : Region.free md l.toArray listed i = true := by kernel_rfl) (hr : (Region.ready md l.toArray listed).contains i = true := by kernel_rfl)
    (hQ : ∀ c a w, Q (.panic c) (a.put oi.dst undef) w → Q (.panic c) a w := by exact fun _ _ _ h => h) (hw : Region.wanted oi (yielded l.toArray a.tmps) = false := by rfl) (hS : S w := by assumption) : wpAnyH P md l.toArray Q S (fuel + 1) listed a w :=
  take_bar hi hs hf hr hQ hw hS h
end
section
variable {P : Program} {l : List Oper} {Q : Exit → Act → World → Prop} {md : Region.Mode} {S : World → Prop} {d : Nat}
theorem sk (i : Nat) {oi : Oper} {rest : List Oper} {v : Value} {fuel : Nat} {listed : Array Bool} {a : Act} {w : World} (hi : l.drop i = oi :: rest)
    (hy : ∀ w, (execOp a.eval oi).run P w = .ok (.value v) w)
    (h : wpAnyD P md l.toArray Q S d fuel (listed.setIfInBounds i true) (a.put oi.dst v) w)
    (hs : Region.noSelect l.toArray = true := by kernel_rfl) (hf : Region.free md l.toArray listed i = true := by kernel_rfl) (hr : (Region.ready md l.toArray listed).contains i = true := by kernel_rfl) (hid : (i != d) = true := by kernel_rfl)
    (hQ : ∀ c a w, Q (.panic c) (a.put oi.dst v) w → Q (.panic c) a w := by exact fun _ _ _ h => h) (hw : Region.wanted oi (yielded l.toArray a.tmps) = true := by rfl) (hS : S w := by assumption) : wpAnyD P md l.toArray Q S d (fuel + 1) listed a w :=
  st_pure hi hs hf hr hid hQ hw hy (.inl hS) h
theorem sl (i : Nat) {oi : Oper} {rest : List Oper} {v : Value} {fuel : Nat} {listed : Array Bool} {a : Act} {w : World} (hi : l.drop i = oi :: rest)
    (hy : ∀ w, S w → (execOp a.eval oi).run P w = .ok (.value v) w)
    (h : wpAnyD P md l.toArray Q S d fuel (listed.setIfInBounds i true) (a.put oi.dst v) w)
    (hs : Region.noSelect l.toArray = true := by kernel_rfl) (hf : Region.free md l.toArray listed i = true := by kernel_rfl) (hr : (Region.ready md l.toArray listed).contains i = true := by kernel_rfl) (hid : (i != d && waitsB md l.toArray d i && !listed.getD d false) = true := by kernel_rfl)
    (hQ : ∀ c a w, Q (.panic c) (a.put oi.dst v) w → Q (.panic c) a w := by exact fun _ _ _ h => h) (hw : Region.wanted oi (yielded l.toArray a.tmps) = true := by rfl) (hS : S w := by assumption) : wpAnyD P md l.toArray Q S d (fuel + 1) listed a w :=
  st_run hi hs hf hr hid hQ hw hy hS h
theorem sbar (i : Nat) {oi : Oper} {rest : List Oper} {fuel : Nat} {listed : Array Bool} {a : Act} {w : World} (hi : l.drop i = oi :: rest)
    (h : wpAnyD P md l.toArray Q S d fuel (listed.setIfInBounds i true) (a.put oi.dst undef) w)
    (hs : Region.noSelect l.toArray = true := by kernel_rfl) (hf : Region.free md l.toArray listed i = true := by kernel_rfl) (hr : (Region.ready md l.toArray listed).contains i = true := by kernel_rfl) (hid : (i != d) = true := by kernel_rfl)
    (hQ : ∀ c a w, Q (.panic c) (a.put oi.dst undef) w → Q (.panic c) a w := by exact fun _ _ _ h => h) (hw : Region.wanted oi (yielded l.toArray a.tmps) = false := by rfl) (hS : S w := by assumption) : wpAnyD P md l.toArray Q S d (fuel + 1) listed a w :=
  st_bar hi hs hf hr hid hQ hw (.inl hS) h
end
end Go.Proofs.YtnlpeiffbnlncaaDoor

/- Rows of numbers that are known whole; made. -/
namespace Go.Proofs.YtnlpeiffbnlncaaDoor
open Go.RowKit
set_option linter.unusedVariables false

def icells (l : List Int) : Array Value := (l.map fun x => Value.int .i64 x).toArray
theorem icells_size (l : List Int) : (icells l).size = l.length := by simp [icells]
theorem icells_get {l : List Int} {i : Nat} {x : Int} (h : l[i]? = some x) : (icells l)[i]? = some (.int .i64 x) := by simp [icells, h]
theorem icells_set (l : List Int) (i : Nat) (x : Int) : (icells l).setIfInBounds i (.int .i64 x) = icells (l.set i x) := by
  apply Array.ext'
  simp [icells, List.map_set]
theorem icells_made (n : Nat) : madeCells #[.int .i64 0] n = icells (List.replicate n 0) := by
  apply Array.ext'
  simp only [madeCells, icells, Array.toList_map, Array.toList_range, List.map_replicate]
  apply List.ext_getElem
  · simp
  · intro i h1 h2
    simp [Nat.mod_one]
theorem els_icells {w : World} {S : Nat → Prop} {g : Nat} {t : TypeId} {ms : List Int} (hb : Blk' w g t (icells ms)) (h : ∀ v ∈ ms, I64 v) (hS : S g) : Els w S ms (some ⟨g, 0, none⟩) :=
  fun _ => ⟨g, 0, rfl, hS, fun i x hi => ⟨[.int .i64 x], ⟨rfl, h x (List.mem_of_getElem? hi)⟩, fun j u hu => by
    match j, hu with
    | 0, hu =>
      simp at hu; subst hu
      have e : 0 + i * Dat.size Int + 0 = i := by show 0 + i * 1 + 0 = i; omega
      rw [e, hb.cell]
      exact icells_get hi⟩⟩
theorem mkInts (n : Nat) (hn : n ≤ 1000000) (W : World) : (Instr.makeSlice 22 (.int .i64 (n : Int)) (.int .i64 (n : Int))).run Tryd.prog W = .ok (.slice (some ⟨W.heap.size, 0, none⟩) n n) (W.alloc (.cells (icells (List.replicate n 0)) 3)) := by
  rw [← icells_made]
  exact run_make_row' (P := Tryd.prog) 22 3 (.int .i64 0) 8 Tryd.underlying22 infoInt rfl .i64 .i64 n (by omega) (by omega) W

end Go.Proofs.YtnlpeiffbnlncaaDoor

/- A row of packs (a rule and a slice of kids each) at the head of a block: its elements read, two changed. -/
namespace Go.Proofs.YtnlpeiffbnlncaaDoor
open Go.RowKit
set_option linter.unusedVariables false

structure PkV where
  r : Int
  a : Option Addr
  n : Nat
  c : Nat
def PkV.v (p : PkV) : Value := .agg #[.int .i64 p.r, .slice p.a p.n p.c]
/-- A row of packs at the head of a block. -/
def RowF (w : World) (g : Nat) (ps : List PkV) : Prop := ∃ cur, Blk' w g 128 cur ∧ ∀ (i : Nat) (p : PkV), ps[i]? = some p → cur[i * 2]? = some (.int .i64 p.r) ∧ cur[i * 2 + 1]? = some (.slice p.a p.n p.c)
theorem RowF.cell0 {w : World} {g : Nat} {ps : List PkV} (h : RowF w g ps) {i : Nat} {p : PkV} (hx : ps[i]? = some p) : w.cell? ⟨g, i * 2, none⟩ = some (.int .i64 p.r) := by
  obtain ⟨cur, hb, hc⟩ := h
  rw [hb.cell]; exact (hc i p hx).1
theorem RowF.cell1 {w : World} {g : Nat} {ps : List PkV} (h : RowF w g ps) {i : Nat} {p : PkV} (hx : ps[i]? = some p) : w.cell? ⟨g, i * 2 + 1, none⟩ = some (.slice p.a p.n p.c) := by
  obtain ⟨cur, hb, hc⟩ := h
  rw [hb.cell]; exact (hc i p hx).2
theorem RowF.frozen {w : World} {g : Nat} {ps : List PkV} (h : RowF w g ps) (i : Nat) : w.frozen? ⟨g, i, none⟩ = false := by
  obtain ⟨cur, hb, _⟩ := h
  exact hb.frozen i
theorem RowF.lt {w : World} {g : Nat} {ps : List PkV} (h : RowF w g ps) : g < w.heap.size := by
  obtain ⟨cur, hb, _⟩ := h
  exact hb.lt
theorem RowF.set_ {w : World} {g : Nat} {ps : List PkV} (h : RowF w g ps) (i : Nat) (p : PkV) : RowF ((w.setCell ⟨g, i * 2, none⟩ (.int .i64 p.r)).setCell ⟨g, i * 2 + 1, none⟩ (.slice p.a p.n p.c)) g (ps.set i p) := by
  obtain ⟨cur, hb, hc⟩ := h
  refine ⟨_, (hb.set_ (i * 2) _).set_ (i * 2 + 1) _, fun j x hx => ?_⟩
  by_cases e : i = j
  · subst e
    have hl : i < ps.length := by have := (List.getElem?_eq_some_iff.1 hx).1; simpa using this
    rw [List.getElem?_set_self hl] at hx
    injection hx with hx
    subst hx
    have h2 := hc i ps[i] (List.getElem?_eq_getElem hl)
    have h3 := (Array.getElem?_eq_some_iff.1 h2.1).1
    have h4 := (Array.getElem?_eq_some_iff.1 h2.2).1
    refine ⟨?_, ?_⟩
    · simp [Array.getElem?_setIfInBounds, h3]
    · simp [Array.getElem?_setIfInBounds, h4]
  · rw [List.getElem?_set_ne e] at hx
    obtain ⟨h1, h2⟩ := hc j x hx
    refine ⟨?_, ?_⟩
    · rw [Array.getElem?_setIfInBounds_ne (by omega), Array.getElem?_setIfInBounds_ne (by omega)]; exact h1
    · rw [Array.getElem?_setIfInBounds_ne (by omega), Array.getElem?_setIfInBounds_ne (by omega)]; exact h2
theorem RowF.kept {w w' : World} {X : Nat → Prop} {g : Nat} {ps : List PkV} (h : RowF w g ps) (k : Kept X w w') (hx : ¬ X g) : RowF w' g ps := by
  obtain ⟨cur, hb, hc⟩ := h
  exact ⟨cur, hb.kept k hx, hc⟩
theorem RowF.below {w w' : World} {g : Nat} {ps : List PkV} (h : RowF w g ps) (k : Below w.heap.size w w') : RowF w' g ps := by
  obtain ⟨cur, hb, hc⟩ := h
  exact ⟨cur, hb.below k hb.lt, hc⟩
theorem fswap_perm {ys : List PkV} {i j : Nat} {a b : PkV} (ha : ys[i]? = some a) (hb : ys[j]? = some b) : ((ys.set i b).set j a).Perm ys := by
  obtain ⟨h1, rfl⟩ := List.getElem?_eq_some_iff.1 ha
  obtain ⟨h2, rfl⟩ := List.getElem?_eq_some_iff.1 hb
  exact List.set_set_perm h1 h2
theorem pair_kept {w w' : World} {g i : Nat} {u v : Value} (h : Kept (fun b => b = g) w w') : Kept (fun b => b = g) w ((w'.setCell ⟨g, i * 2, none⟩ u).setCell ⟨g, i * 2 + 1, none⟩ v) :=
  (h.setCell (p := ⟨g, i * 2, none⟩) (.inl rfl) _).setCell (p := ⟨g, i * 2 + 1, none⟩) (.inl rfl) _
/-- What a function that only permutes the row gives. -/
def RetPm (w : World) (g : Nat) (ps : List PkV) (e : Ending) (w' : World) : Prop := e = .returned (.tuple #[]) ∧ ∃ qs : List PkV, RowF w' g qs ∧ qs.Perm ps ∧ Kept (fun b => b = g) w w'
/-- What is wanted of the comparison. -/
def CmpOk (w0 : World) (g : Nat) (ps : List PkV) : Prop :=
  ∀ p ∈ ps, ∀ q ∈ ps, ∀ W : World, Kept (fun b => b = g) w0 W → Calls Tryd.prog 103 #[p.v, q.v] W fun e w' => (∃ k : Int, e = .returned (.int .i64 k)) ∧ Below W.heap.size W w'
theorem CmpOk.perm {w0 w1 : World} {g : Nat} {ps qs : List PkV} (h : CmpOk w0 g ps) (hp : qs.Perm ps) (hk : Kept (fun b => b = g) w0 w1) : CmpOk w1 g qs :=
  fun p hp1 q hq W hW => h p (hp.subset hp1) q (hp.subset hq) W (hk.trans hW)
theorem RetPm.refl {w : World} {g : Nat} {ps : List PkV} (h : RowF w g ps) : RetPm w g ps (.returned (.tuple #[])) w := ⟨rfl, ps, h, List.Perm.refl _, Kept.refl _ _⟩
end Go.Proofs.YtnlpeiffbnlncaaDoor

/- slices.SortFunc at nodes of a forest, laid for the shelf's contract. -/
namespace Go.Proofs.YtnlpeiffbnlncaaDoor
open Go.Shelf

def sortK_ren : Go.Shelf.Ren := ⟨fun | 6 => 100 | 15 => 124 | 14 => 123 | 28 => 138 | 29 => 139 | 20 => 130 | 21 => 131 | 22 => 132 | 23 => 133 | 24 => 134 | 25 => 135 | 26 => 136 | 27 => 137 | 46 => 142 | 47 => 143 | 48 => 144 | 49 => 145 | 50 => 146 | 57 => 148 | n => n, fun | 22 => 164 | 24 => 160 | 25 => 171 | 3 => 3 | 39 => 181 | 0 => 0 | 53 => 161 | 55 => 202 | 4 => 4 | 46 => 208 | 45 => 207 | 50 => 191 | 5 => 5 | 9 => 9 | 66 => 216 | 70 => 85 | 76 => 221 | 77 => 222 | n => n, fun | n => n⟩
theorem sortK : Go.Proofs.SlLaysF0.n6 Tryd.prog sortK_ren := {
  mixed := by kernel_rfl,
  f6 := ⟨Tryd.f100.name, by decide, Tryd.func100.trans (congrArg some (by kernel_rfl))⟩,
  f14 := ⟨Tryd.f123.name, by decide, Tryd.func123.trans (congrArg some (by kernel_rfl))⟩,
  f15 := Tryd.func124.trans (congrArg some (by kernel_rfl)),
  f20 := ⟨Tryd.f130.name, by decide, Tryd.func130.trans (congrArg some (by kernel_rfl))⟩,
  f21 := ⟨Tryd.f131.name, by decide, Tryd.func131.trans (congrArg some (by kernel_rfl))⟩,
  f22 := ⟨Tryd.f132.name, by decide, Tryd.func132.trans (congrArg some (by kernel_rfl))⟩,
  f23 := ⟨Tryd.f133.name, by decide, Tryd.func133.trans (congrArg some (by kernel_rfl))⟩,
  f24 := ⟨Tryd.f134.name, by decide, Tryd.func134.trans (congrArg some (by kernel_rfl))⟩,
  f25 := ⟨Tryd.f135.name, by decide, Tryd.func135.trans (congrArg some (by kernel_rfl))⟩,
  f26 := ⟨Tryd.f136.name, by decide, Tryd.func136.trans (congrArg some (by kernel_rfl))⟩,
  f27 := ⟨Tryd.f137.name, by decide, Tryd.func137.trans (congrArg some (by kernel_rfl))⟩,
  f28 := Tryd.func138.trans (congrArg some (by kernel_rfl)),
  f29 := Tryd.func139.trans (congrArg some (by kernel_rfl)),
  f46 := ⟨Tryd.f142.name, by decide, Tryd.func142.trans (congrArg some (by kernel_rfl))⟩,
  f47 := Tryd.func143.trans (congrArg some (by kernel_rfl)),
  f48 := Tryd.func144.trans (congrArg some (by kernel_rfl)),
  f49 := ⟨Tryd.f145.name, by decide, Tryd.func145.trans (congrArg some (by kernel_rfl))⟩,
  f50 := ⟨Tryd.f146.name, by decide, Tryd.func146.trans (congrArg some (by kernel_rfl))⟩,
  f57 := ⟨Tryd.f148.name, by decide, Tryd.func148.trans (congrArg some (by kernel_rfl))⟩,
  t0 := Tryd.underlying0,
  a0 := Tryd.isAgg0,
  z0 := Tryd.sizeOf0,
  v0 := Tryd.zeroValue0,
  t3 := Tryd.underlying3,
  a3 := Tryd.isAgg3,
  z3 := Tryd.sizeOf3,
  v3 := Tryd.zeroValue3,
  t4 := Tryd.underlying4,
  a4 := Tryd.isAgg4,
  z4 := Tryd.sizeOf4,
  v4 := Tryd.zeroValue4,
  t5 := Tryd.underlying5,
  a5 := Tryd.isAgg5,
  z5 := Tryd.sizeOf5,
  v5 := Tryd.zeroValue5,
  t9 := Tryd.underlying9,
  a9 := Tryd.isAgg9,
  z9 := Tryd.sizeOf9,
  v9 := Tryd.zeroValue9,
  t22 := Tryd.underlying164,
  a22 := Tryd.isAgg164,
  z22 := Tryd.sizeOf164,
  v22 := Tryd.zeroValue164,
  t25 := Tryd.underlying171,
  a25 := Tryd.isAgg171,
  z25 := Tryd.sizeOf171,
  v25 := Tryd.zeroValue171,
  t39 := Tryd.underlying181,
  a39 := Tryd.isAgg181,
  z39 := Tryd.sizeOf181,
  v39 := Tryd.zeroValue181,
  t45 := Tryd.underlying207,
  a45 := Tryd.isAgg207,
  z45 := Tryd.sizeOf207,
  v45 := Tryd.zeroValue207,
  t46 := Tryd.underlying208,
  a46 := Tryd.isAgg208,
  z46 := Tryd.sizeOf208,
  v46 := Tryd.zeroValue208,
  t50 := Tryd.underlying191,
  a50 := Tryd.isAgg191,
  z50 := Tryd.sizeOf191,
  v50 := Tryd.zeroValue191,
  t53 := Tryd.underlying161,
  a53 := Tryd.isAgg161,
  z53 := Tryd.sizeOf161,
  v53 := Tryd.zeroValue161,
  t55 := Tryd.underlying202,
  a55 := Tryd.isAgg202,
  z55 := Tryd.sizeOf202,
  v55 := Tryd.zeroValue202,
  t66 := Tryd.underlying216,
  a66 := Tryd.isAgg216,
  z66 := Tryd.sizeOf216,
  v66 := Tryd.zeroValue216,
  t70 := Tryd.underlying85,
  a70 := Tryd.isAgg85,
  z70 := Tryd.sizeOf85,
  v70 := Tryd.zeroValue85,
  t76 := Tryd.underlying221,
  a76 := Tryd.isAgg221,
  z76 := Tryd.sizeOf221,
  v76 := Tryd.zeroValue221,
  t77 := Tryd.underlying222,
  a77 := Tryd.isAgg222,
  z77 := Tryd.sizeOf222,
  v77 := Tryd.zeroValue222 }
end Go.Proofs.YtnlpeiffbnlncaaDoor

/- Plain: the order of lists of ints. No program is named here. -/
namespace Go.Proofs.YtnlpeiffbnlncaaDoor
open Go.RowKit
set_option linter.unusedVariables false

def cmpL : List Int → List Int → Int
  | [], [] => 0
  | [], _ :: _ => -1
  | _ :: _, [] => 1
  | x :: xs, y :: ys => if x < y then -1 else if y < x then 1 else cmpL xs ys
end Go.Proofs.YtnlpeiffbnlncaaDoor

/- Lists alike up to a place. -/
namespace Go.Proofs.YtnlpeiffbnlncaaDoor
open Go.RowKit
set_option linter.unusedVariables false

theorem take_ne {α : Type} {xs ys : List α} {k : Nat} {x y : α} (hx : xs[k]? = some x) (hy : ys[k]? = some y) (h : x ≠ y) : xs ≠ ys := by
  rintro rfl; rw [hx] at hy; exact h (by injection hy)
theorem take_eq {α : Type} {xs ys : List α} {k : Nat} {x y : α} (hx : xs[k]? = some x) (hy : ys[k]? = some y) (h : x = y) (ht : xs.take k = ys.take k) : xs.take (k + 1) = ys.take (k + 1) := by
  rw [take_snoc hx, take_snoc hy, ht, h]
theorem take_all {α : Type} {xs ys : List α} {k : Nat} (hl : xs.length = ys.length) (hk : xs.length ≤ k) (ht : xs.take k = ys.take k) : xs = ys := by
  rwa [List.take_of_length_le hk, List.take_of_length_le (by omega)] at ht
end Go.Proofs.YtnlpeiffbnlncaaDoor

/- The plain law of core.Count's visit: what the rows of states and counts are on the way. No program is named here. -/
namespace Go.Proofs.YtnlpeiffbnlncaaDoor
set_option linter.unusedVariables false

def gd (l : List Int) (u : Nat) : Int := l.getD u 0
theorem gd_set (l : List Int) (i : Nat) (x : Int) (j : Nat) (hi : i < l.length) : gd (l.set i x) j = if j = i then x else gd l j := by
  unfold gd
  rw [List.getD_eq_getElem?_getD, List.getElem?_set, List.getD_eq_getElem?_getD]
  by_cases e : i = j
  · subst e; simp [hi]
  · rw [if_neg e, if_neg (fun h => e h.symm)]
theorem gd_get {l : List Int} {i : Nat} {x : Int} (h : l[i]? = some x) : gd l i = x := by
  unfold gd
  rw [List.getD_eq_getElem?_getD, h]
  rfl
theorem gd_some {l : List Int} {i : Nat} (h : i < l.length) : l[i]? = some (gd l i) := by
  unfold gd
  rw [List.getD_eq_getElem?_getD, List.getElem?_eq_getElem h]
  rfl
def zeros (l : List Int) : Nat := (l.filter fun x => decide (x = 0)).length
theorem zeros_set : ∀ (l : List Int) (i : Nat) (x : Int), gd l i = 0 → i < l.length → x ≠ 0 → zeros (l.set i x) < zeros l
  | [], i, x, _, h, _ => by simp at h
  | a :: l, 0, x, h, _, hx => by
    have h : a = 0 := h
    subst h
    simp [zeros, hx]
  | a :: l, i + 1, x, h, hl, hx => by
    have ih := zeros_set l i x h (by simpa using hl) hx
    by_cases ha : a = 0
    · simp [zeros, ha] at ih ⊢; omega
    · simp [zeros, ha] at ih ⊢; exact ih
theorem zeros_le : ∀ (l : List Int) (i : Nat) (x : Int), x ≠ 0 → zeros (l.set i x) ≤ zeros l
  | [], i, x, _ => by simp
  | a :: l, 0, x, hx => by
    by_cases ha : a = 0
    · simp [zeros, ha, hx]
    · simp [zeros, ha, hx]
  | a :: l, i + 1, x, hx => by
    have ih := zeros_le l i x hx
    by_cases ha : a = 0
    · simp [zeros, ha] at ih ⊢; omega
    · simp [zeros, ha] at ih ⊢; exact ih
def cnF (cn : List Int) : Nat → Nat := fun k => (gd cn k).toNat
theorem prodM_congr {f f' : Nat → Nat} : ∀ (l : List Int) (x : Nat), (∀ k ∈ l, f k.toNat = f' k.toNat) → prodM f x l = prodM f' x l
  | [], x, _ => rfl
  | k :: l, x, h => by
    show prodM f (min (x * f k.toNat) lim) l = prodM f' (min (x * f' k.toNat) lim) l
    rw [h k (by simp), prodM_congr l _ (fun j hj => h j (by simp [hj]))]
theorem sumM_congr {f f' : Nat → Nat} : ∀ (J : List (List Int)) (x : Nat), (∀ l ∈ J, ∀ k ∈ l, f k.toNat = f' k.toNat) → sumM f x J = sumM f' x J
  | [], x, _ => rfl
  | l :: J, x, h => by
    show sumM f (min (x + prodM f 1 l) lim) J = sumM f' (min (x + prodM f' 1 l) lim) J
    rw [prodM_congr l 1 (h l (by simp)), sumM_congr J _ (fun j hj => h j (by simp [hj]))]
theorem prodM_snoc (f : Nat → Nat) (x : Nat) (l : List Int) (k : Int) : prodM f x (l ++ [k]) = min (prodM f x l * f k.toNat) lim := by
  unfold prodM
  rw [List.foldl_append]
  rfl
theorem sumM_snoc (f : Nat → Nat) (x : Nat) (J : List (List Int)) (l : List Int) : sumM f x (J ++ [l]) = min (sumM f x J + prodM f 1 l) lim := by
  unfold sumM
  rw [List.foldl_append]
  rfl
theorem prodM_le (f : Nat → Nat) (l : List Int) : prodM f 1 l ≤ lim := by
  have key : ∀ (l : List Int) (x : Nat), x ≤ lim → prodM f x l ≤ lim := by
    intro l
    induction l with
    | nil => intro x h; exact h
    | cons k l ih => intro x _; exact ih _ (Nat.min_le_right _ _)
  exact key l 1 (by decide)
theorem sumM_le (f : Nat → Nat) (x : Nat) (J : List (List Int)) (hx : x ≤ lim) : sumM f x J ≤ lim := by
  induction J generalizing x with
  | nil => exact hx
  | cons l J ih => exact ih _ (Nat.min_le_right _ _)

/-- The rows: 0 not yet, 1 begun, 2 done. -/
structure StI (F : List FNode) (st cn : List Int) : Prop where
  sl : st.length = F.length
  cl : cn.length = F.length
  at_ : ∀ u, u < F.length → (gd st u = 0 ∧ gd cn u = 0 ∨ gd st u = 1 ∨ gd st u = 2 ∧ Cn F u (gd cn u).toNat) ∧ 0 ≤ gd cn u ∧ gd cn u ≤ 1000000000
/-- What a visit that ends well changes. -/
structure Mv (F : List FNode) (st cn st' cn' : List Int) : Prop where
  ok : StI F st' cn'
  one : ∀ u, u < F.length → (gd st' u = 1 ↔ gd st u = 1)
  two : ∀ u, u < F.length → gd st u = 2 → gd st' u = 2 ∧ gd cn' u = gd cn u
  onec : ∀ u, u < F.length → gd st u = 1 → gd cn' u = gd cn u
  zer : zeros st' ≤ zeros st
theorem Mv.refl {F : List FNode} {st cn : List Int} (h : StI F st cn) : Mv F st cn st cn := ⟨h, fun _ _ => Iff.rfl, fun _ _ h => ⟨h, rfl⟩, fun _ _ _ => rfl, Nat.le_refl _⟩
/-- Within a visit of v: the packs J are done. -/
structure InV (F : List FNode) (st cn : List Int) (v init : Nat) (J : List (List Int)) (st' cn' : List Int) : Prop where
  ok : StI F st' cn'
  one : ∀ u, u < F.length → (gd st' u = 1 ↔ gd st u = 1 ∨ u = v)
  two : ∀ u, u < F.length → gd st u = 2 → gd st' u = 2 ∧ gd cn' u = gd cn u
  onec : ∀ u, u < F.length → gd st u = 1 → gd cn' u = gd cn u
  zer : zeros st' < zeros st
  cnv : gd cn' v = ((sumM (cnF cn') init J : Nat) : Int)
  done : ∀ l ∈ J, ∀ k ∈ l, gd st' k.toNat = 2
  v0 : gd st v = 0
  vl : v < F.length
theorem InV.begin {F : List FNode} {st cn : List Int} (h : StI F st cn) {v : Nat} (hv : v < F.length) (h0 : gd st v = 0) (t : Bool) : InV F st cn v (if t then 1 else 0) [] (st.set v 1) (if t then cn.set v 1 else cn) := by
  have hs : v < st.length := by rw [h.sl]; exact hv
  have hc : v < cn.length := by rw [h.cl]; exact hv
  have hz : gd cn v = 0 := by
    rcases (h.at_ v hv).1 with h1 | h1 | h1
    · exact h1.2
    · omega
    · omega
  have e1 : ∀ u, gd (st.set v 1) u = if u = v then 1 else gd st u := fun u => gd_set st v 1 u hs
  have e2 : ∀ u, gd (if t then cn.set v 1 else cn) u = if u = v then (if t then 1 else 0) else gd cn u := fun u => by
    cases t
    · simp only [Bool.false_eq_true, if_false]
      split
      · rename_i e; rw [e, hz]
      · rfl
    · simp only [if_true]
      exact gd_set cn v 1 u hc
  refine ⟨⟨by rw [List.length_set]; exact h.sl, by cases t <;> simp [h.cl], fun u hu => ?_⟩, fun u hu => ?_, fun u hu h2 => ?_, fun u hu h2 => ?_, zeros_set st v 1 h0 hs (by decide), ?_, by simp, h0, hv⟩
  · rw [e1, e2]
    by_cases e : u = v
    · rw [if_pos e, if_pos e]
      cases t <;> simp
    · rw [if_neg e, if_neg e]; exact h.at_ u hu
  · rw [e1]
    by_cases e : u = v
    · simp [e]
    · simp [e]
  · rw [e1, e2]
    have e : u ≠ v := fun e => by rw [e, h0] at h2; cases h2
    rw [if_neg e, if_neg e]; exact ⟨h2, rfl⟩
  · rw [e2]
    have e : u ≠ v := fun e => by rw [e, h0] at h2; cases h2
    rw [if_neg e]
  · rw [e2, if_pos rfl]
    cases t <;> rfl
/-- A kid has been visited. -/
theorem InV.kid {F : List FNode} {st cn st1 cn1 st2 cn2 : List Int} {v init : Nat} {J : List (List Int)} (h : InV F st cn v init J st1 cn1) (hk : ∀ l ∈ J, ∀ k ∈ l, k.toNat < F.length) (m : Mv F st1 cn1 st2 cn2) : InV F st cn v init J st2 cn2 := by
  refine ⟨m.ok, fun u hu => (m.one u hu).trans (h.one u hu), fun u hu h2 => ?_, fun u hu h1 => ?_, Nat.lt_of_le_of_lt m.zer h.zer, ?_, fun l hl k hkl => ?_, h.v0, h.vl⟩
  · obtain ⟨a, b⟩ := h.two u hu h2
    obtain ⟨c, d⟩ := m.two u hu a
    exact ⟨c, d.trans b⟩
  · rw [m.onec u hu ((h.one u hu).2 (.inl h1))]; exact h.onec u hu h1
  · rw [m.onec v h.vl ((h.one v h.vl).2 (.inr rfl)), h.cnv]
    rw [sumM_congr J init (fun l hl k hkl => ?_)]
    unfold cnF
    rw [(m.two k.toNat (hk l hl k hkl) (h.done l hl k hkl)).2]
  · exact (m.two k.toNat (hk l hl k hkl) (h.done l hl k hkl)).1
/-- A pack is done. -/
theorem InV.pack {F : List FNode} {st cn st1 cn1 : List Int} {v init : Nat} {J : List (List Int)} (h : InV F st cn v init J st1 cn1) (hk : ∀ l ∈ J, ∀ k ∈ l, k.toNat < F.length) (l : List Int) (hl : ∀ k ∈ l, k.toNat < F.length ∧ gd st1 k.toNat = 2) (x : Int) (hx : x = ((min (sumM (cnF cn1) init J + prodM (cnF cn1) 1 l) lim : Nat) : Int)) : InV F st cn v init (J ++ [l]) st1 (cn1.set v x) := by
  have hc : v < cn1.length := by rw [h.ok.cl]; exact h.vl
  have e2 : ∀ u, gd (cn1.set v x) u = if u = v then x else gd cn1 u := fun u => gd_set cn1 v x u hc
  have hv1 : gd st1 v = 1 := (h.one v h.vl).2 (.inr rfl)
  have hne : ∀ u, gd st1 u = 2 → u ≠ v := fun u h2 e => by rw [e, hv1] at h2; cases h2
  have hcong : ∀ k : Int, gd st1 k.toNat = 2 → cnF (cn1.set v x) k.toNat = cnF cn1 k.toNat := fun k h2 => by
    unfold cnF
    rw [e2, if_neg (hne _ h2)]
  refine ⟨⟨h.ok.sl, by rw [List.length_set]; exact h.ok.cl, fun u hu => ?_⟩, h.one, fun u hu h2 => ?_, fun u hu h1 => ?_, h.zer, ?_, fun l' hl' k hkl => ?_, h.v0, h.vl⟩
  · rw [e2]
    by_cases e : u = v
    · rw [if_pos e]
      refine ⟨.inr (.inl (by rw [e]; exact hv1)), by rw [hx]; omega, by rw [hx]; have : min (sumM (cnF cn1) init J + prodM (cnF cn1) 1 l) lim ≤ lim := Nat.min_le_right _ _; have e3 : lim = 1000000000 := rfl; omega⟩
    · rw [if_neg e]; exact h.ok.at_ u hu
  · obtain ⟨a, b⟩ := h.two u hu h2
    rw [e2, if_neg (hne u a)]
    exact ⟨a, b⟩
  · have e : u ≠ v := fun e => by rw [e, h.v0] at h1; cases h1
    rw [e2, if_neg e]; exact h.onec u hu h1
  · rw [e2, if_pos rfl, sumM_snoc, sumM_congr J init (fun l' hl' k hkl => hcong k (h.done l' hl' k hkl)), prodM_congr l 1 (fun k hkl => hcong k (hl k hkl).2)]
    exact hx
  · rcases List.mem_append.1 hl' with hl' | hl'
    · exact h.done l' hl' k hkl
    · simp at hl'; subst hl'; exact (hl k hkl).2
/-- The node is done. -/
theorem InV.end_ {F : List FNode} {st cn st1 cn1 : List Int} {v : Nat} {nd : FNode} (hnd : F[v]? = some nd) (h : InV F st cn v (if nd.sym.term then 1 else 0) (nd.packs.map (·.kids)) st1 cn1) (hk : ∀ p ∈ nd.packs, ∀ k ∈ p.kids, k.toNat < F.length) : Mv F st cn (st1.set v 2) cn1 ∧ gd (st1.set v 2) v = 2 := by
  have hs : v < st1.length := by rw [h.ok.sl]; exact h.vl
  have e1 : ∀ u, gd (st1.set v 2) u = if u = v then 2 else gd st1 u := fun u => gd_set st1 v 2 u hs
  have hcn : Cn F v (gd cn1 v).toNat := by
    have h1 := Cn.mk v nd (cnF cn1) hnd (fun p hp k hkp => by
      have h2 := h.done p.kids (List.mem_map.2 ⟨p, hp, rfl⟩) k hkp
      rcases (h.ok.at_ k.toNat (hk p hp k hkp)).1 with h3 | h3 | h3
      · omega
      · omega
      · exact h3.2)
    rw [h.cnv, Int.toNat_natCast]
    exact h1
  refine ⟨⟨⟨by rw [List.length_set]; exact h.ok.sl, h.ok.cl, fun u hu => ?_⟩, fun u hu => ?_, fun u hu h2 => ?_, h.onec, Nat.le_trans (zeros_le st1 v 2 (by decide)) (Nat.le_of_lt h.zer)⟩, by rw [e1, if_pos rfl]⟩
  · rw [e1]
    by_cases e : u = v
    · rw [if_pos e, e]; exact ⟨.inr (.inr ⟨rfl, hcn⟩), (h.ok.at_ v h.vl).2⟩
    · rw [if_neg e]; exact h.ok.at_ u hu
  · rw [e1]
    by_cases e : u = v
    · rw [if_pos e, e, h.v0]; simp
    · rw [if_neg e, h.one u hu]; simp [e]
  · rw [e1]
    have e : u ≠ v := fun e => by rw [e, h.v0] at h2; cases h2
    rw [if_neg e]
    exact h.two u hu h2
theorem StI.init (F : List FNode) : StI F (List.replicate F.length 0) (List.replicate F.length 0) := by
  have e : ∀ u, gd (List.replicate F.length 0) u = 0 := fun u => by
    unfold gd
    rw [List.getD_eq_getElem?_getD, List.getElem?_replicate]
    split <;> rfl
  exact ⟨by simp, by simp, fun u hu => by rw [e]; simp⟩
end Go.Proofs.YtnlpeiffbnlncaaDoor

/- The plain laws of closed.Star, Concat and Put: which words the combined grammars have. No program is named here. -/
namespace Go.Proofs.YtnlpeiffbnlncaaDoor
set_option linter.unusedVariables false

/-- Symbols go over into symbols, terminals into words. -/
theorem DerW.subst {g g' : Gram} (f : Sym → Sym) (σ : Int → List Int) (hT : ∀ n, DerW g' [f ⟨true, n⟩] (σ n)) (hN : ∀ q ∈ g.rules, ∃ q' ∈ g'.rules, f ⟨false, q.left⟩ = ⟨false, q'.left⟩ ∧ q'.right = q.right.map f) {ss : List Sym} {u : List Int} (h : DerW g ss u) : DerW g' (ss.map f) (u.flatMap σ) := by
  induction h with
  | nil => exact .nil
  | term n ss u _ ih =>
    rw [List.map_cons, List.flatMap_cons]
    exact DerW.append (ss := [f ⟨true, n⟩]) (hT n) ih
  | non q ss u v hq _ _ ih1 ih2 =>
    obtain ⟨q', hq', e1, e2⟩ := hN q hq
    rw [List.map_cons, List.flatMap_append, e1]
    exact .non q' _ _ _ hq' (by rw [e2]; exact ih1) ih2
theorem flatMap_one : ∀ (u : List Int), (u.flatMap fun x => [x]) = u
  | [] => rfl
  | x :: u => by rw [List.flatMap_cons, flatMap_one u]; rfl
theorem DerW.map {g g' : Gram} (f : Sym → Sym) (hT : ∀ n, f ⟨true, n⟩ = ⟨true, n⟩) (hN : ∀ q ∈ g.rules, ∃ q' ∈ g'.rules, f ⟨false, q.left⟩ = ⟨false, q'.left⟩ ∧ q'.right = q.right.map f) {ss : List Sym} {u : List Int} (h : DerW g ss u) : DerW g' (ss.map f) u := by
  have := DerW.subst f (fun x => [x]) (fun n => by rw [hT]; exact .term n [] [] .nil) hN h
  rwa [flatMap_one] at this
/-- And back, where the rules of what comes of a symbol are the symbol's own. -/
theorem DerW.unmap {g g' : Gram} (f : Sym → Sym) (P : Sym → Prop) (hT : ∀ s n, P s → f s = ⟨true, n⟩ → s = ⟨true, n⟩) (hN : ∀ q' ∈ g'.rules, ∀ s, P s → f s = ⟨false, q'.left⟩ → ∃ q ∈ g.rules, s = ⟨false, q.left⟩ ∧ q'.right = q.right.map f ∧ ∀ x ∈ q.right, P x) {ss' : List Sym} {u : List Int} (h : DerW g' ss' u) :
    ∀ ss, ss' = ss.map f → (∀ s ∈ ss, P s) → DerW g ss u := by
  induction h with
  | nil =>
    intro ss e _
    cases ss with
    | nil => exact .nil
    | cons s ss => simp at e
  | term n rr u _ ih =>
    intro ss e hP
    cases ss with
    | nil => simp at e
    | cons s ss =>
      rw [List.map_cons] at e
      injection e with e1 e2
      rw [hT s n (hP s (by simp)) e1.symm]
      exact .term n _ _ (ih ss e2 (fun x hx => hP x (by simp [hx])))
  | non q' rr u v hq _ _ ih1 ih2 =>
    intro ss e hP
    cases ss with
    | nil => simp at e
    | cons s ss =>
      rw [List.map_cons] at e
      injection e with e1 e2
      obtain ⟨q, hq1, rfl, hq2, hq3⟩ := hN q' hq s (hP s (by simp)) e1.symm
      exact .non q _ _ _ hq1 (ih1 q.right hq2 hq3) (ih2 ss e2 (fun x hx => hP x (by simp [hx])))

/-! ### Shifting nonterminals -/
def shS (k : Int) (s : Sym) : Sym := if s.term then s else ⟨false, s.n + k⟩
def shR (k : Int) (q : Rule) : Rule := ⟨q.left + k, q.right.map (shS k)⟩
def NonIn (n : Int) (s : Sym) : Prop := s.term = false → 0 ≤ s.n ∧ s.n < n
/-- The rules are of the nonterminals 0 .. n-1. -/
def InN (g : Gram) (n : Int) : Prop := ∀ q ∈ g.rules, (0 ≤ q.left ∧ q.left < n) ∧ ∀ s ∈ q.right, NonIn n s
theorem shS_term (k n : Int) : shS k ⟨true, n⟩ = ⟨true, n⟩ := by simp [shS]
theorem shS_non (k n : Int) : shS k ⟨false, n⟩ = ⟨false, n + k⟩ := by simp [shS]
/-- A grammar whose rules with a left side among k .. k+n-1 are the shifted ones of g. -/
structure Part (g g' : Gram) (k n : Int) : Prop where
  there : ∀ q ∈ g.rules, shR k q ∈ g'.rules
  back : ∀ q' ∈ g'.rules, k ≤ q'.left → q'.left < k + n → ∃ q ∈ g.rules, q' = shR k q
theorem Part.der {g g' : Gram} {k n : Int} (h : Part g g' k n) (hg : InN g n) {a : Int} (ha : 0 ≤ a) (han : a < n) (u : List Int) : DerW g' [⟨false, a + k⟩] u ↔ DerW g [⟨false, a⟩] u := by
  constructor
  · intro hd
    refine DerW.unmap (shS k) (NonIn n) (fun s m hs e => ?_) (fun q' hq' s hs e => ?_) hd [⟨false, a⟩] (by simp [shS]) (fun s hs => ?_)
    · obtain ⟨st, sn⟩ := s
      cases st
      · rw [shS_non] at e; injection e with e _; cases e
      · rw [shS_term] at e; exact e
    · obtain ⟨st, sn⟩ := s
      cases st
      · rw [shS_non] at e
        injection e with _ e
        have h1 := hs rfl
        dsimp only at h1
        obtain ⟨q, hq, rfl⟩ := h.back q' hq' (by omega) (by omega)
        refine ⟨q, hq, ?_, rfl, (hg q hq).2⟩
        have e' : sn + k = q.left + k := e
        rw [show sn = q.left by omega]
      · rw [shS_term] at e; injection e with e _; cases e
    · simp at hs
      subst hs
      exact fun _ => ⟨ha, han⟩
  · intro hd
    have := DerW.map (g' := g') (shS k) (shS_term k) (fun q hq => ⟨shR k q, h.there q hq, shS_non k q.left, rfl⟩) hd
    simpa [shS] using this

/-! ### Star -/
def starG (a : Gram) : Gram := ⟨a.terms, a.nons + 1, a.nons, a.rules.map (shR 0) ++ [⟨a.nons, []⟩, ⟨a.nons, [⟨false, a.nons⟩, ⟨false, a.start⟩]⟩]⟩
def StarW (a : Gram) (w : List Int) : Prop := w = [] ∨ ∃ k, k < w.length ∧ DerW (starG a) [⟨false, a.nons⟩] (w.take k) ∧ DerW a [⟨false, a.start⟩] (w.drop k)
theorem star_part {a : Gram} (ha : InN a a.nons) : Part a (starG a) 0 a.nons := by
  refine ⟨fun q hq => ?_, fun q' hq' h1 h2 => ?_⟩
  · unfold starG
    exact List.mem_append_left _ (List.mem_map_of_mem hq)
  · unfold starG at hq'
    rcases List.mem_append.1 hq' with h | h
    · obtain ⟨q, hq, rfl⟩ := List.mem_map.1 h
      exact ⟨q, hq, rfl⟩
    · simp at h
      rcases h with rfl | rfl
      · dsimp only at h2; omega
      · dsimp only at h2; omega
theorem star_to {a : Gram} (ha : InN a a.nons) (hs : 0 ≤ a.start ∧ a.start < a.nons) {ss : List Sym} {u : List Int} (h : DerW (starG a) ss u) : ∀ rest, ss = ⟨false, a.nons⟩ :: rest → ∃ v x, u = v ++ x ∧ DerW (starG a) [⟨false, a.nons⟩] v ∧ StarW a v ∧ DerW (starG a) rest x := by
  induction h with
  | nil => intro rest e; simp at e
  | term n ss u _ _ => intro rest e; injection e with e _; injection e with e _; cases e
  | non q ss u v hq h1 h2 ih1 ih2 =>
    intro rest e
    injection e with e1 e2
    injection e1 with _ e1
    subst e2
    refine ⟨u, v, rfl, ?_, ?_, h2⟩
    · have := DerW.non q [] u [] hq h1 .nil
      rw [List.append_nil, e1] at this
      exact this
    · unfold starG at hq
      rcases List.mem_append.1 hq with hm | hm
      · obtain ⟨q0, hq0, rfl⟩ := List.mem_map.1 hm
        have := (ha q0 hq0).1
        unfold shR at e1
        dsimp only at e1
        omega
      · simp at hm
        rcases hm with rfl | rfl
        · cases h1
          exact .inl rfl
        · obtain ⟨v', x, rfl, d1, d2, d3⟩ := ih1 [⟨false, a.start⟩] rfl
          have d4 : DerW a [⟨false, a.start⟩] x := by
            have := (star_part ha).der ha hs.1 hs.2 x
            rw [Int.add_zero] at this
            exact this.1 d3
          by_cases hx : x = []
          · subst hx
            rw [List.append_nil]
            exact d2
          · refine .inr ⟨v'.length, ?_, ?_, ?_⟩
            · rw [List.length_append]
              have : 0 < x.length := List.length_pos_iff.2 hx
              omega
            · rw [List.take_left]; exact d1
            · rw [List.drop_left]; exact d4
theorem star_iff {a : Gram} (ha : InN a a.nons) (hs : 0 ≤ a.start ∧ a.start < a.nons) (w : List Int) : DerW (starG a) [⟨false, a.nons⟩] w ↔ StarW a w := by
  constructor
  · intro h
    obtain ⟨v, x, rfl, _, h2, h3⟩ := star_to ha hs h [] rfl
    cases h3
    rw [List.append_nil]
    exact h2
  · rintro (rfl | ⟨k, hk, h1, h2⟩)
    · exact DerW.one.2 ⟨⟨a.nons, []⟩, by simp [starG], rfl, .nil⟩
    · refine DerW.one.2 ⟨⟨a.nons, [⟨false, a.nons⟩, ⟨false, a.start⟩]⟩, by simp [starG], rfl, ?_⟩
      have h3 : DerW (starG a) [⟨false, a.start⟩] (w.drop k) := by
        have := (star_part ha).der ha hs.1 hs.2 (w.drop k)
        rw [Int.add_zero] at this
        exact this.2 h2
      have := DerW.append h1 h3
      rwa [List.take_append_drop] at this

/-! ### Concat -/
def concatG (a b : Gram) : Gram := ⟨a.terms, a.nons + b.nons + 1, a.nons + b.nons, a.rules.map (shR 0) ++ b.rules.map (shR a.nons) ++ [⟨a.nons + b.nons, [⟨false, a.start⟩, ⟨false, a.nons + b.start⟩]⟩]⟩
theorem concat_part1 {a b : Gram} (ha : InN a a.nons) (hb : InN b b.nons) (hn : 0 ≤ b.nons) : Part a (concatG a b) 0 a.nons := by
  refine ⟨fun q hq => ?_, fun q' hq' h1 h2 => ?_⟩
  · unfold concatG
    exact List.mem_append_left _ (List.mem_append_left _ (List.mem_map_of_mem hq))
  · unfold concatG at hq'
    rcases List.mem_append.1 hq' with h | h
    · rcases List.mem_append.1 h with h | h
      · obtain ⟨q, hq, rfl⟩ := List.mem_map.1 h
        exact ⟨q, hq, rfl⟩
      · obtain ⟨q, hq, rfl⟩ := List.mem_map.1 h
        have := (hb q hq).1
        unfold shR at h2
        dsimp only at h2
        omega
    · simp at h
      subst h
      dsimp only at h2
      omega
theorem concat_part2 {a b : Gram} (ha : InN a a.nons) (hb : InN b b.nons) : Part b (concatG a b) a.nons b.nons := by
  refine ⟨fun q hq => ?_, fun q' hq' h1 h2 => ?_⟩
  · unfold concatG
    exact List.mem_append_left _ (List.mem_append_right _ (List.mem_map_of_mem hq))
  · unfold concatG at hq'
    rcases List.mem_append.1 hq' with h | h
    · rcases List.mem_append.1 h with h | h
      · obtain ⟨q, hq, rfl⟩ := List.mem_map.1 h
        have := (ha q hq).1
        unfold shR at h1
        dsimp only at h1
        omega
      · obtain ⟨q, hq, rfl⟩ := List.mem_map.1 h
        exact ⟨q, hq, rfl⟩
    · simp at h
      subst h
      dsimp only at h2
      omega
theorem concat_iff {a b : Gram} (ha : InN a a.nons) (hb : InN b b.nons) (hsa : 0 ≤ a.start ∧ a.start < a.nons) (hsb : 0 ≤ b.start ∧ b.start < b.nons) (w : List Int) :
    DerW (concatG a b) [⟨false, a.nons + b.nons⟩] w ↔ ∃ k, k ≤ w.length ∧ DerW a [⟨false, a.start⟩] (w.take k) ∧ DerW b [⟨false, b.start⟩] (w.drop k) := by
  have p1 := fun u => (concat_part1 ha hb (by omega)).der ha hsa.1 hsa.2 u
  have p2 := fun u => (concat_part2 ha hb).der hb hsb.1 hsb.2 u
  constructor
  · intro h
    obtain ⟨q, hq, hl, hd⟩ := DerW.one.1 h
    unfold concatG at hq
    rcases List.mem_append.1 hq with hm | hm
    · rcases List.mem_append.1 hm with hm | hm
      · obtain ⟨q0, hq0, rfl⟩ := List.mem_map.1 hm
        have := (ha q0 hq0).1
        unfold shR at hl
        dsimp only at hl
        omega
      · obtain ⟨q0, hq0, rfl⟩ := List.mem_map.1 hm
        have := (hb q0 hq0).1
        unfold shR at hl
        dsimp only at hl
        omega
    · simp at hm
      subst hm
      obtain ⟨v, x, rfl, h1, h2⟩ := DerW.cons2.1 hd
      refine ⟨v.length, by simp, ?_, ?_⟩
      · rw [List.take_left]
        have := p1 v
        rw [Int.add_zero] at this
        exact this.1 h1
      · rw [List.drop_left]
        have := p2 x
        rw [Int.add_comm] at this
        exact this.1 h2
  · rintro ⟨k, hk, h1, h2⟩
    refine DerW.one.2 ⟨⟨a.nons + b.nons, [⟨false, a.start⟩, ⟨false, a.nons + b.start⟩]⟩, by simp [concatG], rfl, ?_⟩
    have h3 := p1 (w.take k)
    rw [Int.add_zero] at h3
    have h4 := p2 (w.drop k)
    rw [Int.add_comm b.start] at h4
    have := DerW.append (h3.2 h1) (h4.2 h2)
    rwa [List.take_append_drop] at this

/-! ### Put -/
def putS (t m : Int) (s : Sym) : Sym := if s = ⟨true, t⟩ then ⟨false, m⟩ else s
def putR (t m : Int) (q : Rule) : Rule := ⟨q.left, q.right.map (putS t m)⟩
def putG (a : Gram) (t : Int) (b : Gram) : Gram := ⟨a.terms, a.nons + b.nons, a.start, (a.rules.map (shR 0)).map (putR t (a.nons + b.start)) ++ b.rules.map (shR a.nons)⟩
theorem put_part2 {a b : Gram} (t : Int) (ha : InN a a.nons) (hb : InN b b.nons) : Part b (putG a t b) a.nons b.nons := by
  refine ⟨fun q hq => ?_, fun q' hq' h1 h2 => ?_⟩
  · unfold putG
    exact List.mem_append_right _ (List.mem_map_of_mem hq)
  · unfold putG at hq'
    rcases List.mem_append.1 hq' with h | h
    · obtain ⟨q1, hq1, rfl⟩ := List.mem_map.1 h
      obtain ⟨q, hq, rfl⟩ := List.mem_map.1 hq1
      have := (ha q hq).1
      unfold putR shR at h1
      dsimp only at h1
      omega
    · obtain ⟨q, hq, rfl⟩ := List.mem_map.1 h
      exact ⟨q, hq, rfl⟩
theorem put_der {a b : Gram} {t : Int} (ha : InN a a.nons) (hb : InN b b.nons) (hsb : 0 ≤ b.start ∧ b.start < b.nons) {y u : List Int} (hu : DerW b [⟨false, b.start⟩] u) (hy : DerW a [⟨false, a.start⟩] y) :
    DerW (putG a t b) [⟨false, a.start⟩] (y.flatMap fun x => if x = t then u else [x]) := by
  have h1 : DerW (putG a t b) [⟨false, a.nons + b.start⟩] u := by
    have := (put_part2 t ha hb).der hb hsb.1 hsb.2 u
    rw [Int.add_comm] at this
    exact this.2 hu
  have h2 := DerW.subst (g' := putG a t b) (fun s => putS t (a.nons + b.start) (shS 0 s)) (fun x => if x = t then u else [x]) (fun n => by
    rw [shS_term]
    unfold putS
    by_cases e : n = t
    · subst e; simp [h1]
    · rw [if_neg (by simp [e]), if_neg e]
      exact .term n [] [] .nil) (fun q hq => ⟨putR t (a.nons + b.start) (shR 0 q), by unfold putG; exact List.mem_append_left _ (List.mem_map_of_mem (List.mem_map_of_mem hq)), by rw [shS_non]; simp [putS, putR, shR], by simp [putR, shR]⟩) hy
  simpa [shS, putS] using h2
end Go.Proofs.YtnlpeiffbnlncaaDoor

/- Rules with the blocks of their right sides: a row of rules whose right sides lie apart, and a store into one of them. No program is named here. -/
namespace Go.Proofs.YtnlpeiffbnlncaaDoor
open Go.RowKit
set_option linter.unusedVariables false

structure RuleB where
  rule : Rule
  blk : Nat
instance instDatRuleB : Dat RuleB where
  size := 2
  wraps := true
  rd w S r cs := ∃ v, cs = [.int .i64 r.rule.left, v] ∧ I64 r.rule.left ∧ Vl w (fun b => b = r.blk ∧ S b) r.rule.right v
  len h := by obtain ⟨v, rfl, _⟩ := h; rfl
  pos := by decide
  flat h := by simp at h
  one h := by
    obtain ⟨v, rfl, _, hv⟩ := h
    obtain ⟨A, c, rfl, _⟩ := hv.slice
    intro u hu; simp at hu; rcases hu with rfl | rfl <;> rfl
  keep hk hS h := by obtain ⟨v, h1, h2, h3⟩ := h; exact ⟨v, h1, h2, h3.keep (fun p hp => hk p hp.2) (fun b hb => ⟨hb.1, hS b hb.2⟩)⟩

section
variable {w w' : World} {S : Nat → Prop} {base : Nat} {e : TypeId} {v : Value} {xs : List RuleB}
theorem Own.rules (h : Own w S base e v xs) : Own w S base e v (xs.map RuleB.rule) := by
  obtain ⟨css, h1, h2, h3⟩ := h
  refine ⟨css, by rw [List.length_map]; exact h1, by rw [List.length_map]; exact h2, fun i x cs hi hc => ?_⟩
  rw [List.getElem?_map] at hi
  cases hx : xs[i]? with
  | none => rw [hx] at hi; cases hi
  | some y =>
    rw [hx] at hi
    injection hi with hi
    subst hi
    obtain ⟨u, h4, h5, h6⟩ := h3 i y cs hx hc
    exact ⟨u, h4, h5, h6.keep (fun _ _ _ => rfl) (fun b hb => hb.2)⟩
/-- The right sides lie in blocks of their own, from lo on. -/
structure Frs (w : World) (lo : Nat) (xs : List RuleB) : Prop where
  apart : ∀ (i k : Nat) (x y : RuleB), xs[i]? = some x → xs[k]? = some y → i ≠ k → x.blk ≠ y.blk
  cells : ∀ x ∈ xs, lo ≤ x.blk ∧ x.blk < w.heap.size ∧ (x.rule.right ≠ [] → ∃ t cur, Blk' w x.blk t cur)
theorem Frs.nil (w : World) (lo : Nat) : Frs w lo [] := ⟨fun i k x y h => by simp at h, fun x h => by simp at h⟩
theorem Frs.kept {X : Nat → Prop} {lo : Nat} (h : Frs w lo xs) (k : Kept X w w') (hx : ∀ x ∈ xs, x.rule.right ≠ [] → ¬ X x.blk) : Frs w' lo xs :=
  ⟨h.apart, fun x hm => by
    obtain ⟨h1, h2, h3⟩ := h.cells x hm
    refine ⟨h1, Nat.lt_of_lt_of_le h2 k.size, fun hne => ?_⟩
    obtain ⟨t, cur, hb⟩ := h3 hne
    exact ⟨t, cur, hb.kept k (hx x hm hne)⟩⟩
theorem Frs.below {lo : Nat} (h : Frs w lo xs) (k : Below w.heap.size w w') : Frs w' lo xs := h.kept (Kept.of_below (fun _ => False) k) (fun _ _ _ h => h)
theorem Frs.snoc {lo : Nat} {x : RuleB} (h : Frs w lo xs) (hl : lo ≤ x.blk) (hs : x.blk < w.heap.size) (hc : x.rule.right ≠ [] → ∃ t cur, Blk' w x.blk t cur) (hn : ∀ y ∈ xs, y.blk ≠ x.blk) : Frs w lo (xs ++ [x]) := by
  refine ⟨fun i k a b hi hk hne => ?_, fun y hy => ?_⟩
  · rcases Nat.lt_or_ge i xs.length with h1 | h1
    · rw [List.getElem?_append_left h1] at hi
      rcases Nat.lt_or_ge k xs.length with h2 | h2
      · rw [List.getElem?_append_left h2] at hk
        exact h.apart i k a b hi hk hne
      · rw [List.getElem?_append_right h2] at hk
        obtain ⟨h3, h4⟩ := List.getElem?_eq_some_iff.1 hk
        simp at h4
        subst h4
        exact hn a (List.mem_of_getElem? hi)
    · rw [List.getElem?_append_right h1] at hi
      obtain ⟨h3, h4⟩ := List.getElem?_eq_some_iff.1 hi
      simp at h3 h4
      subst h4
      rcases Nat.lt_or_ge k xs.length with h2 | h2
      · rw [List.getElem?_append_left h2] at hk
        exact fun e => hn b (List.mem_of_getElem? hk) e.symm
      · rw [List.getElem?_append_right h2] at hk
        obtain ⟨h5, h6⟩ := List.getElem?_eq_some_iff.1 hk
        simp at h5
        omega
  · rcases List.mem_append.1 hy with hy | hy
    · exact h.cells y hy
    · simp at hy
      subst hy
      exact ⟨hl, hs, hc⟩
theorem Own.ruleNe (h : Own w S base e v xs) {x : RuleB} (hx : x ∈ xs) (hne : x.rule.right ≠ []) : v.ownBlock ≠ some x.blk := by
  obtain ⟨i, hi, rfl⟩ := List.getElem_of_mem hx
  obtain ⟨g, c, cs, _, _, _, hrd, _⟩ := h.at_ (List.getElem?_eq_getElem hi)
  obtain ⟨u, _, _, hv⟩ := hrd
  obtain ⟨A, c', rfl, _, _, hE⟩ := hv.slice
  obtain ⟨b, o, _, ⟨hb, hT⟩, _⟩ := hE hne
  rw [← hb]
  exact hT.2.1
/-- A row's rule, for a load. -/
theorem Own.ruleB (h : Own w S base e v xs) {k : Nat} {x : RuleB} (hk : xs[k]? = some x) :
    ∃ g cap A c, v = .slice (some ⟨g, 0, none⟩) xs.length cap ∧ base ≤ g ∧ g < w.heap.size ∧ I64 x.rule.left ∧ x.rule.right.length ≤ c ∧ c ≤ 9223372036854775807 ∧ Els w (fun b => b = x.blk ∧ OwnT S base v w b) x.rule.right A ∧ w.cell? ⟨g, k * 2, none⟩ = some (.int .i64 x.rule.left) ∧ w.cell? ⟨g, k * 2 + 1, none⟩ = some (.slice A x.rule.right.length c) := by
  obtain ⟨g, cap, cs, hv, hg1, hg2, hrd, hat⟩ := h.at_ hk
  obtain ⟨u, rfl, hI, hvl⟩ := hrd
  obtain ⟨A, c, rfl, h1, h2, h3⟩ := hvl.slice
  exact ⟨g, cap, A, c, hv, hg1, hg2, hI, h1, h2, h3, hat.c0, hat.c1⟩
/-- A symbol is stored into the right side of one rule. -/
theorem Own.putB (h : Own w S base e v xs) {i j g cap o m c n : Nat} {x : RuleB} {t : TypeId} {cur : Array Value} (hi : xs[i]? = some x) (hap : ∀ k y, xs[k]? = some y → k ≠ i → y.blk ≠ x.blk)
    (hv : v = .slice (some ⟨g, 0, none⟩) n cap) (hc : w.cell? ⟨g, i * 2 + 1, none⟩ = some (.slice (some ⟨x.blk, o, none⟩) m c)) (hB : Blk' w x.blk t cur) (hj : j < x.rule.right.length) (s : Sym) (hs : I64 s.n) :
    Own ((w.setCell ⟨x.blk, o + j * 2, none⟩ (.bool s.term)).setCell ⟨x.blk, o + j * 2 + 1, none⟩ (.int .i64 s.n)) S base e v (xs.set i ⟨⟨x.rule.left, x.rule.right.set j s⟩, x.blk⟩) := by
  have hne : x.rule.right ≠ [] := fun e => by rw [e] at hj; simp at hj
  have hnb := h.ruleNe (List.mem_of_getElem? hi) hne
  have hB' := (hB.set_ (o + j * 2) (.bool s.term)).set_ (o + j * 2 + 1) (.int .i64 s.n)
  have hk : Kept (fun y => y = x.blk) w ((w.setCell ⟨x.blk, o + j * 2, none⟩ (.bool s.term)).setCell ⟨x.blk, o + j * 2 + 1, none⟩ (.int .i64 s.n)) := ((Kept.refl (fun y => y = x.blk) w).setCell (p := ⟨x.blk, o + j * 2, none⟩) (.inl rfl) _).setCell (p := ⟨x.blk, o + j * 2 + 1, none⟩) (.inl rfl) _
  obtain ⟨g2, cap2, cs2, hv2, _, _, _, _⟩ := h.at_ hi
  have h0 := h
  obtain ⟨css, h1, h2, h3⟩ := h
  generalize hw' : (w.setCell ⟨x.blk, o + j * 2, none⟩ (.bool s.term)).setCell ⟨x.blk, o + j * 2 + 1, none⟩ (.int .i64 s.n) = w' at *
  have hil : i < css.length := by have := (List.getElem?_eq_some_iff.1 hi).1; omega
  have hci : css[i]? = some css[i] := List.getElem?_eq_getElem hil
  have hcl : ∀ cs ∈ css, cs.length = 2 := by
    intro cs hcs
    obtain ⟨i, hi, rfl⟩ := List.getElem_of_mem hcs
    exact Dat.len (h3 i _ _ (List.getElem?_eq_getElem (by omega : i < xs.length)) (List.getElem?_eq_getElem hi))
  obtain ⟨u, hcs, hI, hvl⟩ := h3 i x _ hi hci
  obtain ⟨A, c', rfl, l1, l2, hE⟩ := hvl.slice
  have hcell : A = some ⟨x.blk, o, none⟩ := by
    subst hv
    have hf := flat_get css hcl i 1 _ _ hci (by rw [hcs]; rfl)
    rcases h1.2 with ⟨q, _⟩ | ⟨g3, cap3, cur3, q, _, q2, _, _, _, q3⟩
    · cases q
    · injection q with q _ _
      injection q with q
      injection q with q _ _
      subst q
      have h6 : cur3[i * 2 + 1]? = some (.slice A x.rule.right.length c') := by
        rw [← q3, List.getElem?_take] at hf
        split at hf
        · rw [← Array.getElem?_toList]; exact hf
        · cases hf
      have h7 : w.cell? ⟨g, i * 2 + 1, none⟩ = cur3[i * 2 + 1]? := cell_of_row w g (i * 2 + 1) cur3 e (0, 0) q2
      rw [h7, h6] at hc
      injection hc with hc
      injection hc with hc _ _
  subst hcell
  obtain ⟨b1, o1, hA, ⟨_, hT⟩, hx⟩ := hE hne
  injection hA with hA
  injection hA with e1 e2 _
  subst e1; subst e2
  have hTT : ∀ b, OwnT S base v w b → OwnT S base v w' b := fun b hb => ⟨hb.1, hb.2.1, Nat.lt_of_lt_of_le hb.2.2 hk.size⟩
  refine ⟨css, ?_, by rw [List.length_set]; exact h2, fun k y cs hk1 hc1 => ?_⟩
  · rw [List.length_set]
    refine ⟨h1.1, ?_⟩
    rcases h1.2 with q | ⟨g3, cap3, cur3, q1, q2, q3, q4⟩
    · exact .inl q
    · exact .inr ⟨g3, cap3, cur3, q1, q2, (hk.block g3 (Array.getElem?_eq_some_iff.1 q3).1 (fun e => hnb (by rw [q1, ← e]; rfl))).trans q3, q4⟩
  · rw [List.getElem?_set] at hk1
    split at hk1
    · rename_i ek
      subst ek
      split at hk1
      · injection hk1 with hk1
        subst hk1
        rw [hci] at hc1
        injection hc1 with hc1
        subst hc1
        refine ⟨_, hcs, hI, Vl.of_slice (by dsimp only; rw [List.length_set]) (by dsimp only; rw [List.length_set]; exact l1) l2 (fun _ => ⟨x.blk, o, rfl, ⟨rfl, hTT _ hT⟩, fun m z hz => ?_⟩)⟩
        dsimp only at hz
        rw [List.getElem?_set] at hz
        split at hz
        · rename_i em
          subst em
          injection hz with hz
          subst hz
          obtain ⟨ds, ⟨rfl, hd⟩, hat⟩ := hx j _ (List.getElem?_eq_getElem hj)
          have c0 : w.cell? ⟨x.blk, o + j * 2, none⟩ = _ := hat.c0
          have c1 : w.cell? ⟨x.blk, o + j * 2 + 1, none⟩ = _ := hat.c1
          rw [hB.cell] at c0 c1
          have d0 := (Array.getElem?_eq_some_iff.1 c0).1
          have d1 := (Array.getElem?_eq_some_iff.1 c1).1
          refine ⟨_, ⟨rfl, hs⟩, fun q u hu => ?_⟩
          rw [hB'.cell]
          show _[o + j * 2 + q]? = _
          match q, hu with
          | 0, hu => simp at hu; subst hu; rw [Array.getElem?_setIfInBounds_ne (by omega), Nat.add_zero, Array.getElem?_setIfInBounds_self_of_lt d0]
          | 1, hu => simp at hu; subst hu; rw [Array.getElem?_setIfInBounds_self_of_lt (by simpa using d1)]
        · rename_i em
          obtain ⟨ds, ⟨rfl, hd⟩, hat⟩ := hx m _ hz
          refine ⟨_, ⟨rfl, hd⟩, fun q u hu => ?_⟩
          have h8 := hat q u hu
          rw [hB.cell] at h8
          have hq : q < 2 := (List.getElem?_eq_some_iff.1 hu).1
          rw [hB'.cell]
          change cur[o + m * 2 + q]? = _ at h8
          show _[o + m * 2 + q]? = _
          rw [Array.getElem?_setIfInBounds_ne (by omega), Array.getElem?_setIfInBounds_ne (by omega)]
          exact h8
      · cases hk1
    · rename_i ek
      obtain ⟨u, h4, h5, h6⟩ := h3 k y cs hk1 hc1
      have hyb := hap k y hk1 (fun e => ek e.symm)
      exact ⟨u, h4, h5, h6.keep (fun p hp hlt => hk.cell hlt (fun e => hyb (hp.1.symm.trans e))) (fun b hb => ⟨hb.1, hTT b hb.2⟩)⟩
theorem Frs.put {lo : Nat} (h : Frs w lo xs) {i : Nat} {x y : RuleB} (hi : xs[i]? = some x) (hy : y.blk = x.blk) (k : Kept (fun b => b = x.blk) w w') (hB : ∃ t cur, Blk' w' x.blk t cur) : Frs w' lo (xs.set i y) := by
  have hb : ∀ (k : Nat) z, (xs.set i y)[k]? = some z → ∃ z', xs[k]? = some z' ∧ z'.blk = z.blk ∧ (k ≠ i → z' = z) := by
    intro k z hz
    rw [List.getElem?_set] at hz
    split at hz
    · rename_i e
      subst e
      split at hz
      · injection hz with hz
        subst hz
        exact ⟨x, hi, hy.symm, fun e => absurd rfl e⟩
      · cases hz
    · exact ⟨z, hz, rfl, fun _ => rfl⟩
  refine ⟨fun a c p q h1 h2 hne => ?_, fun z hz => ?_⟩
  · obtain ⟨p', h3, h4, _⟩ := hb a p h1
    obtain ⟨q', h5, h6, _⟩ := hb c q h2
    rw [← h4, ← h6]
    exact h.apart a c p' q' h3 h5 hne
  · obtain ⟨n, hn, rfl⟩ := List.getElem_of_mem hz
    obtain ⟨z', h3, h4, h5⟩ := hb n _ (List.getElem?_eq_getElem hn)
    obtain ⟨h6, h7, h8⟩ := h.cells z' (List.mem_of_getElem? h3)
    rw [← h4]
    refine ⟨h6, Nat.lt_of_lt_of_le h7 k.size, fun hne => ?_⟩
    by_cases e : n = i
    · subst e
      rw [hi] at h3
      injection h3 with h3
      rw [← h3]
      exact hB
    · have e2 := h5 e
      have h9 := h.apart n i z' x h3 hi e
      rw [← e2] at hne
      obtain ⟨t, cur, hc⟩ := h8 hne
      exact ⟨t, cur, hc.kept k h9⟩
theorem Frs.lo {lo lo' : Nat} (h : Frs w lo xs) (hl : lo' ≤ lo) : Frs w lo' xs := ⟨h.apart, fun x hx => ⟨Nat.le_trans hl (h.cells x hx).1, (h.cells x hx).2⟩⟩
end
section
variable {w : World} {S : Nat → Prop} {base : Nat} {e : TypeId} {v : Value}
theorem Own.blk {α : Type} [Dat α] {xs : List α} (h : Own w S base e v xs) {k : Nat} (hk : v.ownBlock = some k) : ∃ t cur, Blk' w k t cur := by
  obtain ⟨css, h1, _⟩ := h
  rcases h1.2 with ⟨rfl, _⟩ | ⟨g, cap, cur, rfl, _, hh, _⟩
  · cases hk
  · injection hk with hk
    subst hk
    exact ⟨_, _, hh⟩
theorem Own.symEls {xs : List Sym} {A : Option Addr} {n c : Nat} (h : Own w S base e (.slice A n c) xs) : Els w (fun b => (Value.slice A n c).ownBlock = some b) xs A := by
  intro hne
  obtain ⟨b, o, rfl, _, hx⟩ := h.vl.els.2.2.2 hne
  exact ⟨b, o, rfl, rfl, fun i x hi => by
    obtain ⟨cs, h1, h2⟩ := hx i x hi
    exact ⟨cs, h1, h2⟩⟩
/-- The block of a symbols' row, or a number of its own where there is none. -/
theorem Own.kb {xs : List Sym} {A : Option Addr} {c lo hi : Nat} (h : Own w S base e (.slice A xs.length c) xs) (h1 : lo ≤ base) (h2 : lo < hi) (h3 : w.heap.size ≤ hi) : ∃ kb, lo ≤ kb ∧ kb < hi ∧ (xs ≠ [] → (Value.slice A xs.length c).ownBlock = some kb) ∧ Els w (fun b => b = kb) xs A := by
  by_cases hne : xs = []
  · exact ⟨lo, Nat.le_refl _, h2, fun h => absurd hne h, fun h => absurd hne h⟩
  · obtain ⟨b, o, rfl, hb, _⟩ := h.vl.els.2.2.2 hne
    have h4 := h.block b rfl
    exact ⟨b, Nat.le_trans h1 h4.1, Nat.lt_of_lt_of_le h4.2 h3, fun _ => rfl, h.symEls.keep (fun _ _ _ => rfl) (fun k hk => by injection hk with hk; exact hk.symm)⟩
end
end Go.Proofs.YtnlpeiffbnlncaaDoor

/- Lists of rules on the way of closed.Put. No program is named here. -/
namespace Go.Proofs.YtnlpeiffbnlncaaDoor
set_option linter.unusedVariables false

def putU (R : List Rule) (x m : Int) (t : Nat) : List Rule := (R.take t).map (putR x m) ++ R.drop t
def midS (x m : Int) (s : Nat) (l : List Sym) : List Sym := (l.take s).map (putS x m) ++ l.drop s
def putV (R : List Rule) (x m : Int) (t s : Nat) (r : Rule) : List Rule := (R.take t).map (putR x m) ++ ⟨r.left, midS x m s r.right⟩ :: R.drop (t + 1)
section
variable {R : List Rule} {x m : Int} {t s : Nat} {r : Rule} {z : Sym}
theorem drop_consG {α : Type} {l : List α} {k : Nat} {a : α} (h : l[k]? = some a) : l.drop k = a :: l.drop (k + 1) := by
  obtain ⟨h1, rfl⟩ := List.getElem?_eq_some_iff.1 h
  exact List.drop_eq_getElem_cons h1
theorem take_snocG {α : Type} {l : List α} {k : Nat} {a : α} (h : l[k]? = some a) : l.take (k + 1) = l.take k ++ [a] := by
  rw [List.take_add_one, h]; rfl
theorem putU_zero : putU R x m 0 = R := by simp [putU]
theorem midS_zero (l : List Sym) : midS x m 0 l = l := by simp [midS]
theorem midS_len (l : List Sym) : (midS x m s l).length = l.length := by unfold midS; rw [List.length_append, List.length_map, List.length_take, List.length_drop]; omega
theorem midS_all (l : List Sym) : midS x m l.length l = l.map (putS x m) := by unfold midS; rw [List.take_length, List.drop_length, List.append_nil]
theorem putV_zero (hr : R[t]? = some r) : putV R x m t 0 r = putU R x m t := by
  unfold putV putU
  rw [midS_zero, drop_consG hr]
theorem putV_last (hr : R[t]? = some r) : putV R x m t r.right.length r = putU R x m (t + 1) := by
  unfold putV putU
  rw [midS_all, take_snocG hr, List.map_append]
  simp [putR]
theorem take_len_of {α : Type} {l : List α} {k : Nat} {a : α} (h : l[k]? = some a) : (l.take k).length = k := by
  have := (List.getElem?_eq_some_iff.1 h).1
  rw [List.length_take]; omega
theorem putU_at (hr : R[t]? = some r) : (putU R x m t)[t]? = some r := by
  unfold putU
  rw [drop_consG hr, List.getElem?_append_right (by rw [List.length_map, take_len_of hr]; exact Nat.le_refl _), List.length_map, take_len_of hr]
  simp
theorem putV_at (hr : R[t]? = some r) : (putV R x m t s r)[t]? = some ⟨r.left, midS x m s r.right⟩ := by
  unfold putV
  rw [List.getElem?_append_right (by rw [List.length_map, take_len_of hr]; exact Nat.le_refl _), List.length_map, take_len_of hr]
  simp
theorem midS_at {l : List Sym} (hz : l[s]? = some z) : (midS x m s l)[s]? = some z := by
  unfold midS
  rw [drop_consG hz, List.getElem?_append_right (by rw [List.length_map, take_len_of hz]; exact Nat.le_refl _), List.length_map, take_len_of hz]
  simp
theorem midS_next {l : List Sym} (hz : l[s]? = some z) : midS x m (s + 1) l = (midS x m s l).set s (putS x m z) := by
  unfold midS
  rw [drop_consG hz, take_snocG hz, List.map_append, List.set_append_right _ _ (by rw [List.length_map, take_len_of hz]; exact Nat.le_refl _), List.length_map, take_len_of hz]
  simp
theorem set_same {α : Type} {l : List α} {k : Nat} {a : α} (h : l[k]? = some a) : l.set k a = l := by
  obtain ⟨h1, rfl⟩ := List.getElem?_eq_some_iff.1 h
  exact List.set_getElem_self h1
theorem putV_skip (hz : r.right[s]? = some z) (h : putS x m z = z) : putV R x m t (s + 1) r = putV R x m t s r := by
  unfold putV
  rw [midS_next hz, h, set_same (midS_at hz)]
theorem putV_set (hr : R[t]? = some r) (hz : r.right[s]? = some z) : (putV R x m t s r).set t ⟨r.left, (midS x m s r.right).set s (putS x m z)⟩ = putV R x m t (s + 1) r := by
  unfold putV
  rw [List.set_append_right _ _ (by rw [List.length_map, take_len_of hr]; exact Nat.le_refl _), List.length_map, take_len_of hr, midS_next hz]
  simp
theorem map_at {ys : List RuleB} {q : Rule} {l : List Rule} (h : ys.map RuleB.rule = l) (hq : l[t]? = some q) : ∃ kb, ys[t]? = some ⟨q, kb⟩ := by
  subst h
  rw [List.getElem?_map] at hq
  cases hy : ys[t]? with
  | none => rw [hy] at hq; cases hq
  | some y =>
    rw [hy] at hq
    injection hq with hq
    subst hq
    exact ⟨y.blk, rfl⟩
theorem map_set_rule {ys : List RuleB} {q : RuleB} : (ys.set t q).map RuleB.rule = (ys.map RuleB.rule).set t q.rule := List.map_set
theorem set_blk {ys : List RuleB} {y q : RuleB} {hi : Nat} (h : ∀ y ∈ ys, y.blk < hi) (hy : ys[t]? = some y) (he : q.blk = y.blk) : ∀ z ∈ ys.set t q, z.blk < hi := by
  intro z hz
  rcases List.mem_or_eq_of_mem_set hz with hz | rfl
  · exact h z hz
  · rw [he]; exact h y (List.mem_of_getElem? hy)
end
end Go.Proofs.YtnlpeiffbnlncaaDoor

/- Lists of rules on the way of closed.Reverse; a right side that is turned in place. No program is named here. -/
namespace Go.Proofs.YtnlpeiffbnlncaaDoor
open Go.RowKit
set_option linter.unusedVariables false

def revR (r : Rule) : Rule := ⟨r.left, r.right.reverse⟩
def revG (g : Gram) : Gram := ⟨g.terms, g.nons, g.start, g.rules.map revR⟩
def revU (R : List Rule) (t : Nat) : List Rule := (R.take t).map revR ++ R.drop t
section
variable {R : List Rule} {t : Nat} {r : Rule}
theorem revU_zero : revU R 0 = R := by simp [revU]
theorem revU_all : revU R R.length = R.map revR := by simp [revU]
theorem revU_len : (revU R t).length = R.length := by unfold revU; rw [List.length_append, List.length_map, List.length_take, List.length_drop]; omega
theorem revU_at (hr : R[t]? = some r) : (revU R t)[t]? = some r := by
  unfold revU
  rw [drop_consG hr, List.getElem?_append_right (by rw [List.length_map, take_len_of hr]; exact Nat.le_refl _), List.length_map, take_len_of hr]
  simp
theorem revU_set (hr : R[t]? = some r) : (revU R t).set t (revR r) = revU R (t + 1) := by
  unfold revU
  rw [drop_consG hr, List.set_append_right _ _ (by rw [List.length_map, take_len_of hr]; exact Nat.le_refl _), List.length_map, take_len_of hr, take_snocG hr]
  simp
theorem revU_skip (hr : R[t]? = some r) (h : revR r = r) : revU R (t + 1) = revU R t := by
  rw [← revU_set hr, h, set_same (revU_at hr)]
end
/-- The right side of one rule is turned in its own block. -/
theorem Own.turnB {w w' : World} {S : Nat → Prop} {base : Nat} {e : TypeId} {v : Value} {xs : List RuleB} (h : Own w S base e v xs) {i g cap n m c : Nat} {x : RuleB} {A : Option Addr} {l' : List Sym} (hi : xs[i]? = some x) (hap : ∀ k y, xs[k]? = some y → k ≠ i → y.blk ≠ x.blk)
    (hv : v = .slice (some ⟨g, 0, none⟩) n cap) (hc : w.cell? ⟨g, i * 2 + 1, none⟩ = some (.slice A m c)) (hne : x.rule.right ≠ []) (hl : l'.length = x.rule.right.length) (hk : Kept (fun b => b = x.blk) w w') (hE : Els w' (fun b => b = x.blk) l' A) :
    Own w' S base e v (xs.set i ⟨⟨x.rule.left, l'⟩, x.blk⟩) := by
  have hnb := h.ruleNe (List.mem_of_getElem? hi) hne
  obtain ⟨css, h1, h2, h3⟩ := h
  have hil : i < css.length := by have := (List.getElem?_eq_some_iff.1 hi).1; omega
  have hci : css[i]? = some css[i] := List.getElem?_eq_getElem hil
  have hcl : ∀ cs ∈ css, cs.length = 2 := by
    intro cs hcs
    obtain ⟨i, hi, rfl⟩ := List.getElem_of_mem hcs
    exact Dat.len (h3 i _ _ (List.getElem?_eq_getElem (by omega : i < xs.length)) (List.getElem?_eq_getElem hi))
  obtain ⟨u, hcs, hI, hvl⟩ := h3 i x _ hi hci
  obtain ⟨A', c', rfl, l1, l2, hE0⟩ := hvl.slice
  have hcell : A' = A := by
    subst hv
    have hf := flat_get css hcl i 1 _ _ hci (by rw [hcs]; rfl)
    rcases h1.2 with ⟨q, _⟩ | ⟨g3, cap3, cur3, q, _, q2, _, _, _, q3⟩
    · cases q
    · injection q with q _ _
      injection q with q
      injection q with q _ _
      subst q
      have h6 : cur3[i * 2 + 1]? = some (.slice A' x.rule.right.length c') := by
        rw [← q3, List.getElem?_take] at hf
        split at hf
        · rw [← Array.getElem?_toList]; exact hf
        · cases hf
      have h7 : w.cell? ⟨g, i * 2 + 1, none⟩ = cur3[i * 2 + 1]? := cell_of_row w g (i * 2 + 1) cur3 e (0, 0) q2
      rw [h7, h6] at hc
      injection hc with hc
      injection hc with hc _ _
  subst hcell
  obtain ⟨b1, o1, hA, ⟨hb1, hT⟩, hx⟩ := hE0 hne
  have hT' : OwnT S base v w x.blk := by rw [← hb1]; exact hT
  have hTT : ∀ b, OwnT S base v w b → OwnT S base v w' b := fun b hb => ⟨hb.1, hb.2.1, Nat.lt_of_lt_of_le hb.2.2 hk.size⟩
  refine ⟨css, ?_, by rw [List.length_set]; exact h2, fun k y cs hk1 hc1 => ?_⟩
  · rw [List.length_set]
    refine ⟨h1.1, ?_⟩
    rcases h1.2 with q | ⟨g3, cap3, cur3, q1, q2, q3, q4⟩
    · exact .inl q
    · exact .inr ⟨g3, cap3, cur3, q1, q2, (hk.block g3 (Array.getElem?_eq_some_iff.1 q3).1 (fun e => hnb (by rw [q1, ← e]; rfl))).trans q3, q4⟩
  · rw [List.getElem?_set] at hk1
    split at hk1
    · rename_i ek
      subst ek
      split at hk1
      · injection hk1 with hk1
        subst hk1
        rw [hci] at hc1
        injection hc1 with hc1
        subst hc1
        exact ⟨_, hcs, hI, Vl.of_slice (by dsimp only; rw [hl]) (by dsimp only; rw [hl]; exact l1) l2 (hE.keep (fun _ _ _ => rfl) (fun b hb => ⟨hb, by have h9 : b = x.blk := hb; rw [h9]; exact hTT _ hT'⟩))⟩
      · cases hk1
    · rename_i ek
      obtain ⟨u, h4, h5, h6⟩ := h3 k y cs hk1 hc1
      have hyb := hap k y hk1 (fun e => ek e.symm)
      exact ⟨u, h4, h5, h6.keep (fun p hp hlt => hk.cell hlt (fun e => hyb (hp.1.symm.trans e))) (fun b hb => ⟨hb.1, hTT b hb.2⟩)⟩
end Go.Proofs.YtnlpeiffbnlncaaDoor

/- Mirrored trees: plain lists. No program is named here. -/
namespace Go.Proofs.YtnlpeiffbnlncaaDoor
set_option linter.unusedVariables false

mutual
def mirT : Tree → Tree
  | ⟨r, t, ks⟩ => ⟨r, t, (mirL ks).reverse⟩
def mirL : List Tree → List Tree
  | [] => []
  | k :: ks => mirT k :: mirL ks
end
theorem mirL_map : ∀ ks : List Tree, mirL ks = ks.map mirT
  | [] => rfl
  | k :: ks => by simp [mirL, mirL_map ks]
theorem mirL_len (ks : List Tree) : (mirL ks).length = ks.length := by rw [mirL_map, List.length_map]
theorem mirT_eq (r t : Int) (ks : List Tree) : mirT ⟨r, t, ks⟩ = ⟨r, t, (ks.map mirT).reverse⟩ := by rw [mirT, mirL_map]
def zeroT : Tree := ⟨0, 0, []⟩
/-- The kids on the way: m of them are in, from the end on. -/
def mirK (ks : List Tree) (m : Nat) : List Tree := List.replicate (ks.length - m) zeroT ++ ((ks.take m).map mirT).reverse
theorem mirK_zero (ks : List Tree) : mirK ks 0 = List.replicate ks.length zeroT := by simp [mirK]
theorem mirK_all (ks : List Tree) : mirK ks ks.length = (ks.map mirT).reverse := by simp [mirK]
theorem mirK_len {ks : List Tree} {m : Nat} (h : m ≤ ks.length) : (mirK ks m).length = ks.length := by
  unfold mirK
  rw [List.length_append, List.length_replicate, List.length_reverse, List.length_map, List.length_take]
  omega
theorem mirK_set {ks : List Tree} {m : Nat} {x : Tree} (h : ks[m]? = some x) : (mirK ks m).set (ks.length - 1 - m) (mirT x) = mirK ks (m + 1) := by
  have hl := (List.getElem?_eq_some_iff.1 h).1
  unfold mirK
  rw [List.take_add_one, h]
  simp only [Option.toList_some, List.map_append, List.map_cons, List.map_nil, List.reverse_append, List.reverse_cons, List.reverse_nil, List.nil_append, List.singleton_append]
  obtain ⟨d, hd⟩ : ∃ d, ks.length - m = d + 1 := ⟨ks.length - m - 1, by omega⟩
  rw [hd, show ks.length - 1 - m = d by omega, show ks.length - (m + 1) = d by omega, List.replicate_succ', List.append_assoc, List.set_append_right _ _ (by simp), List.length_replicate, Nat.sub_self]
  rfl
theorem nodes_mem {k : Tree} : ∀ {ks : List Tree}, k ∈ ks → nodesT k ≤ nodesL ks
  | x :: ks, h => by
    rcases List.mem_cons.1 h with e | h
    · subst e; simp only [nodesL]; omega
    · have := nodes_mem h; simp only [nodesL]; omega
mutual
theorem Tree.indM {P : Tree → Prop} (h : ∀ r t ks, (∀ k ∈ ks, P k) → P ⟨r, t, ks⟩) : ∀ t, P t
  | ⟨r, t, ks⟩ => h r t ks (Tree.indN h ks)
theorem Tree.indN {P : Tree → Prop} (h : ∀ r t ks, (∀ k ∈ ks, P k) → P ⟨r, t, ks⟩) : ∀ ks : List Tree, ∀ k ∈ ks, P k
  | [], k, hk => by simp at hk
  | x :: xs, k, hk => by
    rcases List.mem_cons.1 hk with e | e
    · exact e ▸ Tree.indM h x
    · exact Tree.indN h xs k e
end
end Go.Proofs.YtnlpeiffbnlncaaDoor

/- Contract: slices.Backward at trees: the closure hands each element over, from the end on. Turned from the kit's text on slices.All. -/
namespace Go.Proofs.YtnlpeiffbnlncaaDoor
open Go.RowKit Go.Shelf
set_option linter.unusedVariables false
attribute [local go_sem] Oper.semAt_some

/-- What an element's cells hold. -/
structure KidV where
  rule : Int
  term : Int
  A : Option Addr
  n : Nat
  c : Nat
def KidV.val (x : KidV) : Value := .agg #[.int .i64 x.rule, .int .i64 x.term, .slice x.A x.n x.c]
/-- What comes: the elements with their places, from the end on. -/
def bwd {β : Type} (zs : List β) : List (β × Nat) := zs.zipIdx.reverse
theorem bwd_len {β : Type} (zs : List β) : (bwd zs).length = zs.length := by simp [bwd]
theorem bwd_get {β : Type} {zs : List β} {k j : Nat} {x : β} (hj : j + k + 1 = zs.length) (hx : zs[j]? = some x) : (bwd zs)[k]? = some (x, j) := by
  unfold bwd
  rw [List.getElem?_reverse (by simp; omega), List.length_zipIdx, List.getElem?_zipIdx, show zs.length - 1 - k = j by omega, hx]
  simp
theorem bwd_succ {β : Type} {zs : List β} {k : Nat} {a : β × Nat} (h : (bwd zs)[k]? = some a) : (bwd zs).take (k + 1) = (bwd zs).take k ++ [a] := by
  rw [List.take_add_one, h]; rfl

set_option maxRecDepth 100000 in
set_option maxHeartbeats 2000000 in
theorem backward1_in (F : Fence) (n : Nat) (h8 : F.fn 86) (hro : F.round = none) (hn : 1 ≤ n) (l Bs b off cap : Nat) (X : Nat → Prop) {β : Type} (val : β → KidV) (zs : List β) (hreach : zs.length ≤ 2000000) (hb : ¬ X b) (J Jx : List (β × Nat) → World → Prop)
    (hY : ∀ pre x W, J pre W → pre.length < zs.length → YieldAt F (n - 1) Tryd.prog l #[.int .i64 (x.2 : Int), (val x.1).val] W fun e W' =>
      (e = .returned (.bool true) ∧ J (pre ++ [x]) W' ∧ Kept X W W') ∨ (e = .returned (.bool false) ∧ Jx (pre ++ [x]) W'))
    (W : World) (hB : ¬ X Bs) (hBs : W.cell? ⟨Bs, 0, none⟩ = some (.slice (some ⟨b, off, none⟩) zs.length cap))
    (hc : ∀ j x, zs[j]? = some x → W.cell? ⟨b, off + j * 3, none⟩ = some (.int .i64 (val x).rule) ∧ W.cell? ⟨b, off + j * 3 + 1, none⟩ = some (.int .i64 (val x).term) ∧ W.cell? ⟨b, off + j * 3 + 1 + 1, none⟩ = some (.slice (val x).A (val x).n (val x).c)) (h0 : J [] W) :
    CallsIn F n Tryd.prog 86 #[.func (.yield l) #[] #[], .pointer (some ⟨Bs, 0, none⟩)] W fun e W' => (∃ v, e = .returned v) ∧
      ((∃ ys, ys = bwd zs ∧ J ys W') ∨ (∃ pre, (∃ k, k ≤ zs.length ∧ pre = (bwd zs).take k) ∧ Jx pre W')) := by
  have hw0 : IntKind.i64.wrap ((zs.length : Int) - 1) = (zs.length : Int) - 1 := IntWalk.i64_in _ (by omega)
  refine callsIn_of_wp Tryd.func86 rfl h8 ?_ hro
  simp only [Tryd.ntmps86, List.size_toArray, List.length_cons, List.length_nil, Nat.reduceAdd, Nat.reduceSub, Array.replicate_succ, Array.replicate_zero, List.push_toArray, List.append_toArray, List.nil_append, List.cons_append]
  gi_wp2
  clear hw0
  gi_loopw [3] (fun i wr => ∃ (k : Nat) (jv : Int), k ≤ zs.length ∧ jv = (zs.length : Int) - 1 - (k : Int) ∧ i = .int .i64 jv ∧ J ((bwd zs).take k) wr ∧ Kept X W wr)
    (fun i _ => (intOf i + 1).toNat)
  case atStart => exact ⟨0, _, Nat.zero_le _, by omega, rfl, h0, Kept.refl _ _⟩
  case round =>
    obtain ⟨k, jv, hk, hjv, rfl, hJs, hnx⟩ := hrel
    have hs : wr.cell? ⟨Bs, 0, none⟩ = some (.slice (some ⟨b, off, none⟩) zs.length cap) := (hnx.cell (p := ⟨Bs, 0, none⟩) (World.block_lt_of_cell? _ _ hBs) hB).trans hBs
    by_cases hlt : k < zs.length
    · obtain ⟨j, rfl⟩ : ∃ j : Nat, jv = (j : Int) := ⟨jv.toNat, by omega⟩
      obtain ⟨x, hx⟩ := get_some (show j < zs.length by omega)
      have hf := bwd_succ (bwd_get (k := k) (by omega) hx)
      obtain ⟨fn, tmps, assign, body, hy, hR⟩ := hY _ (x, j) wr hJs (by rw [List.length_take, bwd_len]; omega)
      obtain ⟨c0, c1, c2⟩ := hc j x hx
      have d0 := (hnx.cell (p := ⟨b, off + j * 3, none⟩) (World.block_lt_of_cell? _ _ c0) hb).trans c0
      have d1 := (hnx.cell (p := ⟨b, off + j * 3 + 1, none⟩) (World.block_lt_of_cell? _ _ c1) hb).trans c1
      have d2 := (hnx.cell (p := ⟨b, off + j * 3 + 1 + 1, none⟩) (World.block_lt_of_cell? _ _ c2) hb).trans c2
      obtain ⟨⟨xr, xt, xA, xn, xc⟩, hv⟩ : ∃ v, v = val x := ⟨_, rfl⟩
      dsimp only at hy hR
      rw [← hv] at hy d0 d1 d2
      dsimp only [KidV.val] at hy d0 d1 d2
      have j0 : (0 : Int) ≤ (j : Int) := by omega
      have j1 : (j : Int) < (zs.length : Int) := by omega
      have hw1 : IntKind.i64.wrap ((j : Int) - 1) = (j : Int) - 1 := IntWalk.i64_in _ (by omega)
      have HJv := Lib.hid hjv
      have HF := Lib.hid hf
      clear hx hf hjv c0 c1 c2 hv
      gi_wp2
      refine hR.mono ?_
      rintro e W3 (⟨rfl, hJ3, hk3⟩ | ⟨rfl, hJx3⟩)
      · gi_wp2
        go_roundw
        case rel => exact ⟨k + 1, _, by omega, by have := HJv.out; omega, rfl, by rw [HF.out]; exact hJ3, hnx.trans hk3⟩
        case measure => have := HJv.out; first | (simp [intOf]; done) | (simp [intOf]; omega)
      · gi_wp2
        refine bodyPost_ret (results_none rfl _ _ _) rfl ?_
        exact ⟨⟨_, rfl⟩, .inr ⟨_, ⟨k + 1, by omega, rfl⟩, by rw [HF.out]; exact hJx3⟩⟩
    · have hkz : k = zs.length := by omega
      have hneg : ¬ (0 : Int) ≤ jv := by omega
      have e : (bwd zs).take k = bwd zs := List.take_of_length_le (by rw [bwd_len]; omega)
      rw [e] at hJs
      have HJs := Lib.hid hJs
      clear hjv e hJs
      gi_wp2
      go_end0
      exact ⟨⟨_, rfl⟩, .inl (by first | exact HJs.out | exact ⟨_, rfl, HJs.out⟩)⟩

set_option maxRecDepth 100000 in
set_option maxHeartbeats 1000000 in
theorem backward1_nil_in (F : Fence) (n : Nat) (h8 : F.fn 86) (hro : F.round = none) (l Bs cap : Nat) (A : Option Addr) {β : Type} (J : List (β × Nat) → World → Prop) (W : World) (hBs : W.cell? ⟨Bs, 0, none⟩ = some (.slice A 0 cap)) (h0 : J [] W) :
    CallsIn F n Tryd.prog 86 #[.func (.yield l) #[] #[], .pointer (some ⟨Bs, 0, none⟩)] W fun e W' => (∃ v, e = .returned v) ∧ J [] W' := by
  have hw0 : IntKind.i64.wrap (-1 : Int) = -1 := IntWalk.i64_in _ (by omega)
  refine callsIn_of_wp Tryd.func86 rfl h8 ?_ hro
  simp only [Tryd.ntmps86, List.size_toArray, List.length_cons, List.length_nil, Nat.reduceAdd, Nat.reduceSub, Array.replicate_succ, Array.replicate_zero, List.push_toArray, List.append_toArray, List.nil_append, List.cons_append]
  gi_wp2
  gi_loopw [3] (fun i wr => i = .int .i64 (-1) ∧ J [] wr) (fun _ _ => 0)
  case atStart => exact ⟨rfl, h0⟩
  case round =>
    obtain ⟨rfl, hJs⟩ := hrel
    gi_wp2
    go_end0
    exact ⟨⟨_, rfl⟩, hJs⟩

set_option maxHeartbeats 1000000 in
theorem backward_in (F : Fence) (n : Nat) (h6 : F.fn 58) (hro : F.round = none) (a : Option Addr) (len cap : Nat) (w : World) :
    CallsIn F n Tryd.prog 58 #[.slice a len cap] w fun e w' => e = .returned (.func (.func 86) #[] #[.pointer (some ⟨w.heap.size, 0, none⟩)]) ∧ w' = w.alloc (.cells #[.slice a len cap] 37) := by
  refine callsIn_of_wp Tryd.func58 rfl h6 ?_ hro
  simp only [Tryd.ntmps58, List.size_toArray, List.length_cons, List.length_nil, Nat.reduceAdd, Nat.reduceSub, Array.replicate_succ, Array.replicate_zero, List.push_toArray, List.append_toArray, List.nil_append, List.cons_append]
  gi_wp2
  go_ret
  exact ⟨rfl, rfl⟩

theorem backward_stops (F : Fence) (n : Nat) (h8 : F.fn 86) (hro : F.round = none) (hn : 1 ≤ n) (Bs : Nat) (X : Nat → Prop) (A : Option Addr) (cap : Nat) {β : Type} (val : β → KidV) (zs : List β) (hreach : zs.length ≤ 2000000) (w : World) (hBs : ¬ X Bs)
    (hc : w.cell? ⟨Bs, 0, none⟩ = some (.slice A zs.length cap)) (hI : zs ≠ [] → ∃ b off, A = some ⟨b, off, none⟩ ∧ ¬ X b ∧ ∀ j x, zs[j]? = some x → w.cell? ⟨b, off + j * 3, none⟩ = some (.int .i64 (val x).rule) ∧ w.cell? ⟨b, off + j * 3 + 1, none⟩ = some (.int .i64 (val x).term) ∧ w.cell? ⟨b, off + j * 3 + 1 + 1, none⟩ = some (.slice (val x).A (val x).n (val x).c)) :
    SeqStopsK F n Tryd.prog 86 #[.pointer (some ⟨Bs, 0, none⟩)] (fun x : β × Nat => #[Value.int .i64 (x.2 : Int), (val x.1).val]) (Kept X) (fun ys => ys = bwd zs)
      (fun pre => ∃ k, k ≤ zs.length ∧ pre = (bwd zs).take k) zs.length w := fun l J Jx W hW _ _ hY h0 => by
  have hc' := (hW.cell (p := ⟨Bs, 0, none⟩) (World.block_lt_of_cell? _ _ hc)).trans hc
  by_cases hz : zs = []
  · subst hz
    exact (backward1_nil_in F n h8 hro l Bs cap A J W hc' h0).mono fun e W' ⟨he, hj⟩ => ⟨he, .inl ⟨_, rfl, hj⟩⟩
  · obtain ⟨b, off, rfl, hb, hcs⟩ := hI hz
    exact backward1_in F n h8 hro hn l Bs b off cap X val zs hreach hb J Jx hY W hBs hc' (fun j x hx => by
      obtain ⟨k0, k1, k2⟩ := hcs j x hx
      exact ⟨(hW.cell (p := ⟨b, off + j * 3, none⟩) (World.block_lt_of_cell? _ _ k0)).trans k0, (hW.cell (p := ⟨b, off + j * 3 + 1, none⟩) (World.block_lt_of_cell? _ _ k1)).trans k1, (hW.cell (p := ⟨b, off + j * 3 + 1 + 1, none⟩) (World.block_lt_of_cell? _ _ k2)).trans k2⟩) h0
end Go.Proofs.YtnlpeiffbnlncaaDoor

/- Rows of trees through a turn of a block that holds no cells. No program is named here. -/
namespace Go.Proofs.YtnlpeiffbnlncaaDoor
open Go.RowKit
set_option linter.unusedVariables false

mutual
theorem rdT_turn {w w' : World} {S S' : Nat → Prop} (hk : ∀ p v, w.cell? p = some v → w'.cell? p = some v) (hS : ∀ b, S b → S' b) : ∀ (t : Tree) (cs : List Value), rdT w S t cs → rdT w' S' t cs
  | ⟨r, t, ks⟩, cs, h => by
    unfold rdT at h ⊢
    obtain ⟨h1, h2, A, c, h3, h4, h5, h6⟩ := h
    refine ⟨h1, h2, A, c, h3, h4, h5, fun hne => ?_⟩
    obtain ⟨b, o, hA, hb, hks⟩ := h6 hne
    exact ⟨b, o, hA, hS _ hb, rdTs_turn hk hS ks b o hks⟩
theorem rdTs_turn {w w' : World} {S S' : Nat → Prop} (hk : ∀ p v, w.cell? p = some v → w'.cell? p = some v) (hS : ∀ b, S b → S' b) : ∀ (ks : List Tree) (b o : Nat), rdTs w S ks b o → rdTs w' S' ks b o
  | [], _, _, _ => by simp [rdTs]
  | k :: ks, b, o, h => by
    rw [rdTs] at h ⊢
    obtain ⟨⟨cs, h1, h2⟩, h3⟩ := h
    exact ⟨⟨cs, rdT_turn hk hS k cs h1, fun j u hu => hk _ _ (h2 j u hu)⟩, rdTs_turn hk hS ks b (o + 3) h3⟩
end
/-- An own row of trees. -/
theorem Own.turn {w w' : World} {S : Nat → Prop} {base : Nat} {e : TypeId} {v : Value} {xs : List Tree} {row : Option Nat} (h : Own w S base e v xs) (hg : w.grownBy w' row) (hr : ∀ r, row = some r → ∃ o : Obj, w.heap[r]? = some o ∧ o.isCells = false) : Own w' S base e v xs := by
  obtain ⟨css, h1, h2, h3⟩ := h
  refine ⟨css, h1.kept hg ?_, h2, fun i x cs hi hc => rdT_turn (fun p v hp => cell_kept hp hg hr) (fun b hb => ⟨hb.1, hb.2.1, Nat.lt_of_lt_of_le hb.2.2 hg.size⟩) _ _ (h3 i x cs hi hc)⟩
  rcases h1.2 with ⟨rfl, hn⟩ | ⟨g, cap, cur, rfl, hg', hh, _⟩
  · exact .inl rfl
  · refine .inr (fun e => ?_)
    obtain ⟨o, ho, hc⟩ := hr g e.symm
    rw [hh] at ho
    cases ho
    cases hc
theorem Blk'.turn {w w' : World} {b : Nat} {t : TypeId} {cs : Array Value} {row : Option Nat} (h : Blk' w b t cs) (hg : w.grownBy w' row) (hr : ∀ r, row = some r → ∃ o : Obj, w.heap[r]? = some o ∧ o.isCells = false) : Blk' w' b t cs :=
  (hg.block b h.lt (fun e => by
    obtain ⟨o, ho, hc⟩ := hr b e.symm
    rw [show w.heap[b]? = _ from h] at ho
    cases ho
    cases hc)).trans h
end Go.Proofs.YtnlpeiffbnlncaaDoor

/- A region that draws its order, in a round of a loop over a function: by the walk of a plain region. A row of trees whose last element is stored over. No program is named here. -/
namespace Go.Proofs.YtnlpeiffbnlncaaDoor
open Go.RowKit
set_option linter.unusedVariables false

theorem oper_round {l n : Nat} {P : Program} {o : Oper} {a : Act} {w : World} {K : Act → World → Prop} {Q : Exit → Act → World → Prop} (hnd : ∀ c, o.op ≠ .defer c) (h : o.wp P a w K Q) : o.wpIn (Fence.wide.inRound l) n P a w K Q := by
  refine ⟨fun _ _ => trivial, ?_⟩
  rw [show (Fence.wide.inRound l).round = some l from rfl, Oper.semAt_some l _ _ hnd]
  unfold Oper.wp at h
  generalize (execOp a.eval o).run P w = r at h ⊢
  cases r with
  | ok x w' =>
    cases x <;> simp only [Oper.upon, Oper.uponIn] at h ⊢ <;>
      first
        | exact h
        | exact h.elim
        | exact ⟨fun h => (by cases h), callsIn_wide.2 h⟩
        | exact ⟨fun h => (by cases h), fun c cs _ => let ⟨v, w', r, s⟩ := h c cs; ⟨v, w', r, stepsIn_wide.2 s⟩⟩
  | halt x w' => cases x <;> simp only [Oper.upon, Oper.uponIn] at h ⊢ <;> exact h
def noDefer (ops : Array Oper) : Bool := ops.all fun o => match o.op with | .defer _ => false | _ => true
theorem noDefer_at {ops : Array Oper} (h : noDefer ops = true) {i : Nat} {o : Oper} (hi : ops[i]? = some o) : ∀ c, o.op ≠ .defer c := by
  intro c e
  unfold noDefer at h
  rw [Array.all_eq_true] at h
  obtain ⟨hl, ho⟩ := Array.getElem?_eq_some_iff.1 hi
  have := h i hl
  rw [ho, e] at this
  cases this
theorem wpOp_round {l n : Nat} {P : Program} {ops : Array Oper} {Q : Exit → Act → World → Prop} (hnd : noDefer ops = true) (hlo : ¬ LetsOut Q) {i : Nat} {K : Act → World → Prop} {a : Act} {w : World} (h : wpOp P ops Q i K a w) : wpOpIn (Fence.wide.inRound l) n P ops Q i K a w := by
  unfold wpOp at h
  unfold wpOpIn
  cases ho : ops[i]? with
  | none => rw [ho] at h; exact h
  | some o =>
    rw [ho] at h
    dsimp only at h ⊢
    by_cases hw : Region.wanted o (yielded ops a.tmps) = true
    · rw [if_pos hw] at h ⊢
      exact oper_round (noDefer_at hnd ho) (h.resolve_right (fun h => hlo h.2))
    · rw [if_neg hw] at h ⊢
      exact ⟨fun _ _ => trivial, h⟩
theorem wpAny_round {l n : Nat} {P : Program} {md : Region.Mode} {ops : Array Oper} {Q : Exit → Act → World → Prop} (hnd : noDefer ops = true) (hlo : ¬ LetsOut Q) : ∀ (fuel : Nat) (listed : Array Bool) (a : Act) (w : World), wpAny P md ops Q fuel listed a w → wpAnyIn (Fence.wide.inRound l) n P md ops Q fuel listed a w
  | 0, _, _, _, h => h
  | fuel + 1, _, _, _, h => ⟨h.1, fun i hi => wpOpIn_mono (fun a' w' h' => wpAny_round hnd hlo fuel _ a' w' h') (wpOp_round hnd hlo (h.2 i hi))⟩
theorem region_round {l n : Nat} {P : Program} {ops : Array Oper} {Q : Exit → Act → World → Prop} {id : Nat} {a : Act} {w : World} (hm : P.follows .mixedOrders = true) (hnd : noDefer ops = true) (hlo : ¬ LetsOut Q) (h : wpAny P .any ops Q ops.size (Array.replicate ops.size false) a w.drew) : (Code.region id ops true).wpIn (Fence.wide.inRound l) n P Q a w :=
  wpIn_region_any hm (wpAny_round hnd hlo _ _ _ _ h)

section
variable {P : Program} {l : List Oper} {Q : Exit → Act → World → Prop} {md : Region.Mode} {S : World → Prop}
/-- Three operations that may come up. -/
theorem take_three {i j k : Nat} {o o' o'' : Oper} {rest rest' rest'' : List Oper} {fuel : Nat} {listed : Array Bool} {a : Act} {w : World} (hi : l.drop i = o :: rest) (hj : l.drop j = o' :: rest') (hk : l.drop k = o'' :: rest'') (hr : Region.ready md l.toArray listed = [i, j, k]) (hwi : Region.wanted o (yielded l.toArray a.tmps) = true) (hwj : Region.wanted o' (yielded l.toArray a.tmps) = true) (hwk : Region.wanted o'' (yielded l.toArray a.tmps) = true)
    (h1 : ∀ K' : Act → World → Prop, Shut (∀ a w, S w → (S w → wpAnyH P md l.toArray Q S fuel (listed.setIfInBounds i true) a w) → K' a w) → Oper.wp P o a w K' Q)
    (h2 : ∀ K' : Act → World → Prop, Shut (∀ a w, S w → (S w → wpAnyH P md l.toArray Q S fuel (listed.setIfInBounds j true) a w) → K' a w) → Oper.wp P o' a w K' Q)
    (h3 : ∀ K' : Act → World → Prop, Shut (∀ a w, S w → (S w → wpAnyH P md l.toArray Q S fuel (listed.setIfInBounds k true) a w) → K' a w) → Oper.wp P o'' a w K' Q) : wpAnyH P md l.toArray Q S (fuel + 1) listed a w :=
  wpAnyH_ready hr (by simp) (AllReadyH.cons (drop_get hi) (fun K hK => by rw [if_pos hwi]; exact h1 K hK) (AllReadyH.cons (drop_get hj) (fun K hK => by rw [if_pos hwj]; exact h2 K hK) (AllReadyH.cons (drop_get hk) (fun K hK => by rw [if_pos hwk]; exact h3 K hK) AllReadyH.nil)))
end

/-- The last element of an own row is stored over. -/
theorem Own.setLast {w : World} {S : Nat → Prop} {base g n c : Nat} {e : TypeId} {xs : List Tree} {x y : Tree} {a0 a1 a2 : Value} (h : Own w S base e (.slice (some ⟨g, 0, none⟩) n c) (xs ++ [y])) (hx : Dat.rd w (OwnT S base (.slice (some ⟨g, 0, none⟩) n c) w) x [a0, a1, a2]) :
    Own (((w.setCell ⟨g, xs.length * 3, none⟩ a0).setCell ⟨g, xs.length * 3 + 1, none⟩ a1).setCell ⟨g, xs.length * 3 + 2, none⟩ a2) S base e (.slice (some ⟨g, 0, none⟩) n c) (xs ++ [x]) := by
  obtain ⟨css, h1, h2, h3⟩ := h
  have hl : css.length = xs.length + 1 := by rw [h2]; simp
  have hlast : css[xs.length]? = some css[xs.length] := List.getElem?_eq_getElem (by omega)
  obtain ⟨d, hd⟩ : ∃ d, d = css[xs.length] := ⟨_, rfl⟩
  have hcss : css = css.take xs.length ++ [d] := by
    have h9 := take_snoc hlast
    rw [← hd] at h9
    rw [← h9, List.take_of_length_le (by omega)]
  have hdl : d.length = 3 := by
    have := h3 xs.length y d (by simp) (by rw [hlast, hd])
    exact Dat.len this
  have hcl : ∀ cs ∈ css.take xs.length, cs.length = 3 := by
    intro cs hcs
    obtain ⟨i, hi, rfl⟩ := List.getElem_of_mem hcs
    rw [List.length_take] at hi
    have hxi : (xs ++ [y])[i]? = some (xs[i]'(by omega)) := by rw [List.getElem?_append_left (by omega)]; exact List.getElem?_eq_getElem (by omega)
    exact Dat.len (h3 i _ _ hxi (by rw [List.getElem_take]; exact List.getElem?_eq_getElem (by omega)))
  have hfl : (css.take xs.length).flatten.length = xs.length * 3 := by rw [flat_len _ hcl, List.length_take]; congr 1; omega
  have hk : Kept (fun b => b = g) w (((w.setCell ⟨g, xs.length * 3, none⟩ a0).setCell ⟨g, xs.length * 3 + 1, none⟩ a1).setCell ⟨g, xs.length * 3 + 2, none⟩ a2) := (((Kept.refl (fun b => b = g) w).setCell (p := ⟨g, xs.length * 3, none⟩) (.inl rfl) _).setCell (p := ⟨g, xs.length * 3 + 1, none⟩) (.inl rfl) _).setCell (p := ⟨g, xs.length * 3 + 2, none⟩) (.inl rfl) _
  have hrd : ∀ {z : Tree} {cs : List Value}, Dat.rd w (OwnT S base (.slice (some ⟨g, 0, none⟩) n c) w) z cs → Dat.rd (((w.setCell ⟨g, xs.length * 3, none⟩ a0).setCell ⟨g, xs.length * 3 + 1, none⟩ a1).setCell ⟨g, xs.length * 3 + 2, none⟩ a2) (OwnT S base (.slice (some ⟨g, 0, none⟩) n c) (((w.setCell ⟨g, xs.length * 3, none⟩ a0).setCell ⟨g, xs.length * 3 + 1, none⟩ a1).setCell ⟨g, xs.length * 3 + 2, none⟩ a2)) z cs := fun hz =>
    Dat.keep (fun p hp hlt => hk.cell hlt (fun e => hp.2.1 (by rw [e]; rfl))) (fun b hb => ⟨hb.1, hb.2.1, Nat.lt_of_lt_of_le hb.2.2 hk.size⟩) hz
  refine ⟨css.take xs.length ++ [[a0, a1, a2]], ?_, by simp; omega, fun i z cs hi hc => ?_⟩
  · rcases h1.2 with ⟨e1, _⟩ | ⟨g', cap, cur, e1, hg, hh, hnc, hcm, hsz, htk⟩
    · cases e1
    · injection e1 with e1 e2 e3
      injection e1 with e1
      injection e1 with e1 _ _
      subst e1; subst e3
      have hb : Blk' w g e cur := hh
      have hb3 := ((hb.set_ (xs.length * 3) a0).set_ (xs.length * 3 + 1) a1).set_ (xs.length * 3 + 2) a2
      have hlen1 : (xs ++ [y]).length = xs.length + 1 := by simp
      have hlen2 : (xs ++ [x]).length = xs.length + 1 := by simp
      rw [hlen1] at htk hnc e2
      refine ⟨by rw [hlen2]; simp only [List.flatten_append, List.length_append, hfl]; show xs.length * 3 + 3 = (xs.length + 1) * 3; omega, .inr ⟨g, c, _, by rw [hlen2, e2], hg, hb3, by rw [hlen2]; exact hnc, hcm, by simp only [Array.size_setIfInBounds]; exact hsz, ?_⟩⟩
      have hcs : cur.size = c * 3 := hsz
      have htk' : cur.toList.take ((xs.length + 1) * 3) = (css.take xs.length).flatten ++ d := by
        have h9 : cur.toList.take ((xs.length + 1) * 3) = css.flatten := htk
        rw [h9]
        conv => lhs; rw [hcss]
        simp
      rw [hlen2]
      show List.take ((xs.length + 1) * 3) _ = _
      apply List.ext_getElem?
      intro i
      have hget : ∀ k, k < (xs.length + 1) * 3 → cur[k]? = ((css.take xs.length).flatten ++ d)[k]? := fun k hk => by
        rw [← htk', List.getElem?_take_of_lt hk, Array.getElem?_toList]
      by_cases hi : i < (xs.length + 1) * 3
      · rw [List.getElem?_take_of_lt hi, Array.getElem?_toList]
        have hi0 : i < cur.size := by rw [hcs]; have := Nat.mul_le_mul_right 3 hnc; omega
        have e3 : (css.take xs.length ++ [[a0, a1, a2]]).flatten = (css.take xs.length).flatten ++ [a0, a1, a2] := by simp
        rw [e3]
        by_cases h4 : i < xs.length * 3
        · rw [Array.getElem?_setIfInBounds_ne (by omega), Array.getElem?_setIfInBounds_ne (by omega), Array.getElem?_setIfInBounds_ne (by omega), hget i hi, List.getElem?_append_left (by omega), List.getElem?_append_left (by omega)]
        · rw [List.getElem?_append_right (by omega), hfl]
          have h5 : i = xs.length * 3 ∨ i = xs.length * 3 + 1 ∨ i = xs.length * 3 + 2 := by omega
          rcases h5 with rfl | rfl | rfl
          · rw [Array.getElem?_setIfInBounds_ne (by omega), Array.getElem?_setIfInBounds_ne (by omega), Array.getElem?_setIfInBounds_self_of_lt hi0, Nat.sub_self]; rfl
          · rw [Array.getElem?_setIfInBounds_ne (by omega), Array.getElem?_setIfInBounds_self_of_lt (by simpa using hi0), Nat.add_sub_cancel_left]; rfl
          · rw [Array.getElem?_setIfInBounds_self_of_lt (by simpa using hi0), Nat.add_sub_cancel_left]; rfl
      · rw [List.getElem?_take_eq_none (by omega), List.getElem?_eq_none]
        simp only [List.flatten_append, List.length_append, hfl]
        show xs.length * 3 + 3 ≤ i
        omega
  · have htl : (css.take xs.length).length = xs.length := by rw [List.length_take]; omega
    by_cases hlt : i < xs.length
    · rw [List.getElem?_append_left hlt] at hi
      rw [List.getElem?_append_left (by omega), List.getElem?_take_of_lt hlt] at hc
      exact hrd (h3 i z cs (by rw [List.getElem?_append_left hlt]; exact hi) hc)
    · have hii : i = xs.length := by have := (List.getElem?_eq_some_iff.1 hi).1; simp at this; omega
      subst hii
      rw [List.getElem?_append_right (Nat.le_refl _), Nat.sub_self] at hi
      rw [List.getElem?_append_right (by omega), htl, Nat.sub_self] at hc
      simp at hi hc
      subst hi; subst hc
      exact hrd hx
end Go.Proofs.YtnlpeiffbnlncaaDoor

/- A row of trees at the head of a block of its own, made and then filled. -/
namespace Go.Proofs.YtnlpeiffbnlncaaDoor
open Go.RowKit
set_option linter.unusedVariables false

def RowT (w : World) (G : Nat) (xs : List Tree) : Prop :=
  ∃ cur, Blk' w G 39 cur ∧ ∀ (i : Nat) (x : Tree), xs[i]? = some x → ∃ (A : Option Addr) (c : Nat), cur[i * 3]? = some (.int .i64 x.rule) ∧ cur[i * 3 + 1]? = some (.int .i64 x.term) ∧ cur[i * 3 + 2]? = some (.slice A x.kids.length c) ∧
    I64 x.rule ∧ I64 x.term ∧ x.kids.length ≤ c ∧ c ≤ 9223372036854775807 ∧ Els w (fun b => G < b ∧ b < w.heap.size) x.kids A
section
variable {w w' : World} {G : Nat} {xs : List Tree}
theorem RowT.lt (h : RowT w G xs) : G < w.heap.size := by
  obtain ⟨cur, hb, _⟩ := h
  exact hb.lt
theorem RowT.frozen (h : RowT w G xs) (i : Nat) : w.frozen? ⟨G, i, none⟩ = false := by
  obtain ⟨cur, hb, _⟩ := h
  exact hb.frozen i
theorem RowT.cells (h : RowT w G xs) {i : Nat} {x : Tree} (hx : xs[i]? = some x) : ∃ (A : Option Addr) (c : Nat), w.cell? ⟨G, i * 3, none⟩ = some (.int .i64 x.rule) ∧ w.cell? ⟨G, i * 3 + 1, none⟩ = some (.int .i64 x.term) ∧ w.cell? ⟨G, i * 3 + 2, none⟩ = some (.slice A x.kids.length c) := by
  obtain ⟨cur, hb, hc⟩ := h
  obtain ⟨A, c, h1, h2, h3, _⟩ := hc i x hx
  exact ⟨A, c, by rw [hb.cell]; exact h1, by rw [hb.cell]; exact h2, by rw [hb.cell]; exact h3⟩
theorem RowT.kept {X : Nat → Prop} (h : RowT w G xs) (k : Kept X w w') (hx : ∀ b, X b → b < G ∨ w.heap.size ≤ b) : RowT w' G xs := by
  obtain ⟨cur, hb, hc⟩ := h
  refine ⟨cur, hb.kept k (fun h => by have h1 := hx _ h; have h2 := hb.lt; omega), fun i x hi => ?_⟩
  obtain ⟨A, c, h1, h2, h3, h4, h5, h6, h7, h8⟩ := hc i x hi
  exact ⟨A, c, h1, h2, h3, h4, h5, h6, h7, (h8.kept k (fun b hb h => by have h1 := hx _ h; omega)).keep (fun _ _ _ => rfl) (fun b hb => ⟨hb.1, Nat.lt_of_lt_of_le hb.2 k.size⟩)⟩
theorem RowT.below (h : RowT w G xs) (k : Below w.heap.size w w') : RowT w' G xs := h.kept (Kept.of_below (fun _ => False) k) (fun _ h => h.elim)
theorem RowT.drew (h : RowT w G xs) : RowT w.drew G xs := h.below (Below.refl _ _).drew
theorem RowT.els (h : RowT w G xs) : Els w (fun b => G ≤ b ∧ b < w.heap.size) xs (some ⟨G, 0, none⟩) := fun _ => ⟨G, 0, rfl, ⟨Nat.le_refl _, h.lt⟩, fun i x hi => by
  obtain ⟨cur, hb, hc⟩ := h
  obtain ⟨A, c, h1, h2, h3, h4, h5, h6, h7, h8⟩ := hc i x hi
  refine ⟨[.int .i64 x.rule, .int .i64 x.term, .slice A x.kids.length c], rd_tree.2 ⟨_, rfl, h4, h5, Vl.of_slice rfl h6 h7 (h8.keep (fun _ _ _ => rfl) (fun b hb => ⟨by omega, hb.2⟩))⟩, fun j u hu => ?_⟩
  show w.cell? ⟨G, 0 + i * 3 + j, none⟩ = some u
  rw [hb.cell, Nat.zero_add]
  match j, hu with
  | 0, hu => simp at hu; subst hu; exact h1
  | 1, hu => simp at hu; subst hu; exact h2
  | 2, hu => simp at hu; subst hu; exact h3⟩
theorem RowT.put (h : RowT w G xs) {j : Nat} (hj : j < xs.length) (x : Tree) (A : Option Addr) (c : Nat) (h1 : I64 x.rule) (h2 : I64 x.term) (h3 : x.kids.length ≤ c) (h4 : c ≤ 9223372036854775807) (h5 : Els w (fun b => G < b ∧ b < w.heap.size) x.kids A) :
    RowT (((w.setCell ⟨G, j * 3, none⟩ (.int .i64 x.rule)).setCell ⟨G, j * 3 + 1, none⟩ (.int .i64 x.term)).setCell ⟨G, j * 3 + 2, none⟩ (.slice A x.kids.length c)) G (xs.set j x) := by
  have hk : Kept (fun b => b = G) w (((w.setCell ⟨G, j * 3, none⟩ (.int .i64 x.rule)).setCell ⟨G, j * 3 + 1, none⟩ (.int .i64 x.term)).setCell ⟨G, j * 3 + 2, none⟩ (.slice A x.kids.length c)) := (((Kept.refl (fun b => b = G) w).setCell (p := ⟨G, j * 3, none⟩) (.inl rfl) _).setCell (p := ⟨G, j * 3 + 1, none⟩) (.inl rfl) _).setCell (p := ⟨G, j * 3 + 2, none⟩) (.inl rfl) _
  have hel : ∀ (ys : List Tree) (B : Option Addr), Els w (fun b => G < b ∧ b < w.heap.size) ys B → Els (((w.setCell ⟨G, j * 3, none⟩ (.int .i64 x.rule)).setCell ⟨G, j * 3 + 1, none⟩ (.int .i64 x.term)).setCell ⟨G, j * 3 + 2, none⟩ (.slice A x.kids.length c)) (fun b => G < b ∧ b < (((w.setCell ⟨G, j * 3, none⟩ (.int .i64 x.rule)).setCell ⟨G, j * 3 + 1, none⟩ (.int .i64 x.term)).setCell ⟨G, j * 3 + 2, none⟩ (.slice A x.kids.length c)).heap.size) ys B := fun ys B he =>
    (he.kept hk (fun b hb (e : b = G) => by omega)).keep (fun _ _ _ => rfl) (fun b hb => ⟨hb.1, Nat.lt_of_lt_of_le hb.2 hk.size⟩)
  obtain ⟨cur, hb, hc⟩ := h
  refine ⟨_, ((hb.set_ (j * 3) (.int .i64 x.rule)).set_ (j * 3 + 1) (.int .i64 x.term)).set_ (j * 3 + 2) (.slice A x.kids.length c), fun i y hi => ?_⟩
  obtain ⟨A0, c0, d0, d1, d2, _⟩ := hc j _ (List.getElem?_eq_getElem hj)
  have e0 := (Array.getElem?_eq_some_iff.1 d0).1
  have e1 := (Array.getElem?_eq_some_iff.1 d1).1
  have e2 := (Array.getElem?_eq_some_iff.1 d2).1
  by_cases e : j = i
  · subst e
    rw [List.getElem?_set_self hj] at hi
    injection hi with hi
    subst hi
    refine ⟨A, c, ?_, ?_, ?_, h1, h2, h3, h4, hel _ _ h5⟩
    · rw [Array.getElem?_setIfInBounds_ne (by omega), Array.getElem?_setIfInBounds_ne (by omega), Array.getElem?_setIfInBounds_self_of_lt e0]
    · rw [Array.getElem?_setIfInBounds_ne (by omega), Array.getElem?_setIfInBounds_self_of_lt (by simpa using e1)]
    · rw [Array.getElem?_setIfInBounds_self_of_lt (by simpa using e2)]
  · rw [List.getElem?_set_ne e] at hi
    obtain ⟨A1, c1, g1, g2, g3, g4, g5, g6, g7, g8⟩ := hc i y hi
    refine ⟨A1, c1, ?_, ?_, ?_, g4, g5, g6, g7, hel _ _ g8⟩
    · rw [Array.getElem?_setIfInBounds_ne (by omega), Array.getElem?_setIfInBounds_ne (by omega), Array.getElem?_setIfInBounds_ne (by omega)]; exact g1
    · rw [Array.getElem?_setIfInBounds_ne (by omega), Array.getElem?_setIfInBounds_ne (by omega), Array.getElem?_setIfInBounds_ne (by omega)]; exact g2
    · rw [Array.getElem?_setIfInBounds_ne (by omega), Array.getElem?_setIfInBounds_ne (by omega), Array.getElem?_setIfInBounds_ne (by omega)]; exact g3
end
def tz3 : Array Value := #[.int .i64 0, .int .i64 0, .slice none 0 0]
theorem tz_get {n i r : Nat} (hi : i < n) (hr : r < 3) : (madeCells tz3 (n * 3))[i * 3 + r]? = some tz3[r]! := by
  have h : i * 3 + r < n * 3 := by omega
  have e : (i * 3 + r) % 3 = r := by omega
  simp [madeCells, h, tz3, e]
theorem RowT.made {w : World} {G n : Nat} (hb : Blk' w G 39 (madeCells tz3 (n * 3))) : RowT w G (List.replicate n zeroT) := by
  refine ⟨_, hb, fun i x hx => ?_⟩
  rw [List.getElem?_replicate] at hx
  split at hx
  · rename_i h
    injection hx with hx
    subst hx
    exact ⟨none, 0, tz_get (r := 0) h (by omega), tz_get (r := 1) h (by omega), tz_get (r := 2) h (by omega), by show I64 0; unfold I64; omega, by show I64 0; unfold I64; omega, Nat.le_refl _, by omega, fun h => absurd rfl h⟩
  · cases hx
theorem mkTrees (n : Nat) (hn : n ≤ 2000000) (W : World) : (Instr.makeSlice 37 (.int .i64 (n : Int)) (.int .i64 (n : Int))).run Tryd.prog W = .ok (.slice (some ⟨W.heap.size, 0, none⟩) n n) (W.alloc (.cells (madeCells tz3 (n * 3)) 39)) := by
  obtain ⟨i0, hi, hz0, hz1, hz2⟩ := info_parts infoTree
  have h := run_makeSlice (P := Tryd.prog) W 37 39 i0 (.agg #[.int .i64 0, .int .i64 0, .slice none 0 0]) Tryd.underlying37 hi hz0 .i64 .i64 (n : Int) (n : Int) (by omega) (Int.le_refl _) (by rw [hz1]; simp; omega) (by rw [hz2]; omega) (by omega)
  rw [h, hz1]
  simp only [Int.toNat_natCast]
  rfl
end Go.Proofs.YtnlpeiffbnlncaaDoor

/- What mirroring answers, and its loop. -/
namespace Go.Proofs.YtnlpeiffbnlncaaDoor
open Go.RowKit
set_option linter.unusedVariables false

def RetMi (t : Tree) (w : World) (e : Ending) (w' : World) : Prop :=
  ∃ (A : Option Addr) (c : Nat), e = .returned (.agg #[.int .i64 t.rule, .int .i64 t.term, .slice A t.kids.length c]) ∧ I64 t.rule ∧ I64 t.term ∧ t.kids.length ≤ c ∧ c ≤ 9223372036854775807 ∧ Els w' (fun b => w.heap.size ≤ b ∧ b < w'.heap.size) t.kids A ∧ Below w.heap.size w w'
def MirB (r t : Int) (n : Nat) (w1 : World) (p : Value) (wx : World) : Prop :=
  ∃ O K : Nat, p = .pointer (some ⟨O, 0, none⟩) ∧ ¬ K = O ∧ w1.heap.size ≤ K ∧ w1.heap.size ≤ O ∧ Blk' wx O 39 #[.int .i64 r, .int .i64 t, .slice (some ⟨K, 0, none⟩) n n] ∧ Blk' wx K 39 (madeCells tz3 (n * 3)) ∧ Below w1.heap.size w1 wx
def MirI (r t : Int) (ks : List Tree) (O K : Nat) (w1 : World) (i : Value) (wr : World) : Prop :=
  ∃ m : Nat, m ≤ ks.length ∧ i = .int .i64 m ∧ RowT wr K (mirK ks m) ∧ Blk' wr O 39 #[.int .i64 r, .int .i64 t, .slice (some ⟨K, 0, none⟩) ks.length ks.length] ∧ Below w1.heap.size w1 wr

end Go.Proofs.YtnlpeiffbnlncaaDoor

