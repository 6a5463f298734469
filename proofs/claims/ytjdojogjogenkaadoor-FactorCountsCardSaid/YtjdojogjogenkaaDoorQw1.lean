/- Contracts of this proof, of several texts joined: CloneKey, Tz, Cmp, Ord, IdxSym, IdxRule, Check, Valid, IdxInt, Word, SymMk, GrB, KOrder, SortK, StabSwap, StabRot, StabIns, CmpInts, Bld1, FacCom, WhereP, FacGrpP. -/
import Derived.Test.YtjdojogjogenkaaDoorQp1
import Derived.Lib.SliceRun
import Derived.Deep.Cut
import Derived.Test.YtjdojogjogenkaaDoorChecked
import Derived.Lib.TrailingZeros
import Derived.Lib.LaidTab
import Derived.Laws.BitsAllLaws
import Derived.Deep.RegionHeld3
import Derived.Deep.DrawnRows
import Derived.Deep.DeepCutAuto
import Derived.Deep.QuietTactic
import Derived.BigQuiet
import Derived.Sort.Grow
import Derived.Test.YtjdojogjogenkaaDoorQp2
/- Contract: slices.Clone at nodes of a forest. -/
namespace Go.Proofs.YtjdojogjogenkaaDoor
open Go.RowKit
set_option linter.unusedVariables false
theorem Own.keyS {w : World} {S S' : Nat → Prop} {base : Nat} {e : TypeId} {v : Value} {xs : List NKey} (h : Own w S base e v xs) : Own w S' base e v xs := by
 obtain ⟨css, h1, h2, h3⟩ := h
 exact ⟨css, h1, h2, fun i x cs hi hc => h3 i x cs hi hc⟩
set_option maxRecDepth 100000 in
set_option maxHeartbeats 2000000 in
theorem cloneKey_any (l : List NKey) (A : Option Addr) (c n : Nat) (S : Nat → Prop) (w : World) (hl : n = l.length) (hm : l.length ≤ 1000000) (hA : Els w S l A) (hS : ∀ b, S b → b < w.heap.size) :
  Calls Tryd.prog 153 #[.slice A n c] w fun e w' => ∃ (A' : Option Addr) (c' : Nat), e = .returned (.slice A' l.length c') ∧ n ≤ c' ∧ c' ≤ 9223372036854775807 ∧ Own w' (fun _ => False) w.heap.size 194 (.slice A' l.length c') l ∧ Below w.heap.size w w' := by
 subst hl
 have HA := Lib.hid hA
 have HS := Lib.hid hS
 have q22 : ∀ (w : World) (a : Option Addr) (n c n' c' : Nat), (binOp .eql 198 (.slice a n c) (.slice none n' c')).run Tryd.prog w = .ok (.bool a.isNone) w := fun w a n c n' c' => Lib.run_eql_slice_nil w _ _ a n c n' c' Tryd.underlying198
 clear hA hS
 cases A with
 | none =>
  have hl0 : l = [] := by
   cases l with
   | nil => rfl
   | cons x xs => obtain ⟨_, _, e, _⟩ := HA.out (by simp); simp at e
  subst hl0
  have hb := Lib.hid (Below.refl w.heap.size w)
  go_enter Tryd.func153, Tryd.ntmps153
  go_wp2
  go_ret
  exact ⟨none, 0, rfl, Nat.le_refl _, by omega, Own.nil _ _ _ _, hb.out⟩
 | some a =>
  have HB1 := Lib.hid ((Below.refl w.heap.size w).alloc (Nat.le_refl _) (.cells #[] 194))
  have HO := Lib.hid (Own.made (α := NKey) (w := w) (fun b => b < w.heap.size) (base := w.heap.size) (e := 194) (cur := #[]) (cap := 0) (Nat.le_refl _) (by omega) rfl)
  have HE := Lib.hid ((HA.out.below HB1.out).keep (S' := OwnT (fun b => b < w.heap.size) w.heap.size (.slice (some ⟨w.heap.size, 0, none⟩) 0 0) (w.alloc (.cells #[] 194))) (fun _ _ _ => rfl) (fun b hb => by
   have h1 := HS.out b hb
   exact ⟨.inl h1, by simp [Value.ownBlock]; omega, by simp; omega⟩))
  go_enter Tryd.func153, Tryd.ntmps153
  go_wp2_with (at_builtin; refine wpList_ownMany _ rfl _ _ elemNKey rfl rfl HO.out l rfl rfl HE.out (by simp; omega) (by simp; omega) (by simp) ?_; intro v' w' hown' hg' _)
  obtain ⟨A', c', rfl, h1, h2, h3⟩ := hown'.form
  have HF := Lib.hid hown'
  have HBl := Lib.hid (bgrown HB1.out hg' HO.out (Nat.le_refl _) (by simp))
  have HN := Lib.hid (And.intro h1 h2)
  clear hown' hg' h1 h2 h3
  go_wp2
  go_ret
  exact ⟨A', c', by simp, by have := HN.out.1; simpa using this, HN.out.2, (by have := HF.out; simpa using this : Own _ _ _ _ _ l).keyS, HBl.out⟩
end Go.Proofs.YtjdojogjogenkaaDoor
/- Contract: math/bits.TrailingZeros32, of the table that is laid. -/
namespace Go.Proofs.YtjdojogjogenkaaDoor
open Go.RowKit
set_option linter.unusedVariables false
def Tab32 (w : World) : Prop := 0 < w.heap.size ∧ ∀ j, j < 32 → w.cell? ⟨0, j, none⟩ = some (.int .u8 ((Lib.deBruijn32tab.getD j 0 : Nat) : Int))
theorem Tab32.below {w w' : World} {B : Nat} (h : Tab32 w) (hb : Below B w w') (hB : 0 < B) : Tab32 w' :=
 ⟨Nat.lt_of_lt_of_le h.1 hb.size, fun j hj => (hb.cell (p := ⟨0, j, none⟩) hB).trans (h.2 j hj)⟩
theorem Tab32.drew {w : World} (h : Tab32 w) : Tab32 w.drew := h
theorem Tab32.of_laid {w : World} (h : laidMet Tryd.prog [("math/bits.deBruijn32tab", Lib.tabData .u8 (Lib.deBruijn32tab.map fun x : Nat => (x : Int)))] w) : Tab32 w := by
 obtain ⟨ps, ⟨g0, t0, cs0, f0, p0, q0, hg0, ht0, hv0, hd0, _, _⟩, _, _⟩ := h
 obtain rfl := Option.some.inj ((show Tryd.prog.globalNamed "math/bits.deBruijn32tab" = some 0 by kernel_rfl).symm.trans hg0)
 obtain rfl := Option.some.inj ((show (Tryd.prog.globals[0]?).map (·.type) = some 249 by kernel_rfl).symm.trans ht0)
 have hcs := Lib.cells_of_tab Tryd.underlying249 Tryd.underlying5 (by kernel_rfl) (by kernel_rfl) hd0
 have hc : ∀ j, j < 32 → w.cell? ⟨0, j, none⟩ = some (.int .u8 ((Lib.deBruijn32tab.getD j 0 : Nat) : Int)) := fun j hj => by
  rw [World.var?_cell hg0 hv0 j, ← Array.getElem?_toList, hcs]
  have h2 : ∀ j, j < 32 → ((Lib.deBruijn32tab.map fun x : Nat => (x : Int)).map fun z => Value.int .u8 z)[j]? = some (.int .u8 ((Lib.deBruijn32tab.getD j 0 : Nat) : Int)) := by
   intro j hj
   rw [List.getElem?_map, List.getElem?_map, List.getD_eq_getElem?_getD]
   have hl : j < Lib.deBruijn32tab.length := hj
   rw [List.getElem?_eq_getElem hl]
   rfl
  exact h2 j hj
 exact ⟨World.block_lt_of_cell? w _ (hc 0 (by omega)), hc⟩
theorem tz_key (x a : Nat) (hx : x < 4294967296) (hx0 : x ≠ 0) (hlow : x &&& (4294967296 - x) = a) :
  bits BinOp.and IntKind.u32 (x : Int) (-(x : Int) % 4294967296) * 125613361 % 4294967296 / 134217728 = ((a * 125613361 % 4294967296 / 134217728 : Nat) : Int) := by
 have e1 : -(x : Int) % 4294967296 = ((4294967296 - x : Nat) : Int) := by omega
 rw [e1, u32_and_nat x _ hx (by omega), hlow]
 omega
set_option maxHeartbeats 1000000 in
theorem tz_core (x k idx : Nat) (w : World) (hx0 : ((x : Int) == 0) = false)
  (key : bits BinOp.and IntKind.u32 (x : Int) (-(x : Int) % 4294967296) * 125613361 % 4294967296 / 134217728 = (idx : Int))
  (hi : idx < 32) (hk : k < 32) (hcell : w.cell? ⟨0, idx, none⟩ = some (.int .u8 k)) :
  Calls Tryd.prog 154 #[.int .u32 x] w fun e w' => e = .returned (.int .i64 k) ∧ w = w' := by
 go_enter Tryd.func154, Tryd.ntmps154
 go_wp2_with (simp only [key])
 go_ret
 exact ⟨rfl, rfl⟩
theorem tz_any (x : Nat) (hx : x < 4294967296) (hx0 : x ≠ 0) (w : World) (hT : Tab32 w) :
  Calls Tryd.prog 154 #[.int .u32 x] w fun e w' => e = .returned (.int .i64 ((Lib.ctz 32 x : Nat) : Int)) ∧ w = w' := by
 obtain ⟨hlow, hk⟩ := Lib.lowest_bit 32 x hx0 hx
 obtain ⟨hi, htab⟩ := Lib.deBruijn32_at _ hk
 have hcell := hT.2 _ hi
 rw [htab] at hcell
 exact tz_core x _ _ w (by simp; omega) (tz_key x _ hx hx0 hlow) hi hk hcell
end Go.Proofs.YtjdojogjogenkaaDoor
/- Contracts: cmp.Compare at int, cmp.Or at int. -/
namespace Go.Proofs.YtjdojogjogenkaaDoor
open Go.RowKit
def cmpI (a b : Int) : Int := if a < b then -1 else if b < a then 1 else 0
theorem cmpI_range (a b : Int) : I64 (cmpI a b) := by unfold cmpI I64; split <;> (try split) <;> omega
def orI : List Int → Int
 | [] => 0
 | x :: xs => if x = 0 then orI xs else x
theorem isNaN_any (x : Int) (w : World) : Calls Tryd.prog 157 #[.int .i64 x] w fun e w' => e = .returned (.bool false) ∧ w = w' := by
 go_enter Tryd.func157, Tryd.ntmps157
 go_wp2
 go_ret
 exact ⟨by simp, rfl⟩
theorem cmpInt_any (x y : Int) (w : World) : Calls Tryd.prog 134 #[.int .i64 x, .int .i64 y] w fun e w' => e = .returned (.int .i64 (cmpI x y)) ∧ w = w' := by
 go_enter Tryd.func134, Tryd.ntmps134
 go_wp2_with (go_at_call 157; refine (isNaN_any _ _).mono ?_; rintro e w' ⟨rfl, rfl⟩)
 all_goals
  go_ret
  refine ⟨?_, rfl⟩
  simp [cmpI]
  omega
set_option maxRecDepth 100000 in
theorem or_any (A : Option Addr) (c : Nat) (xs : List Int) (S : Nat → Prop) (w : World) (hn : xs.length ≤ c) (hc : c ≤ 9223372036854775807) (hA : Els w S xs A) :
  Calls Tryd.prog 133 #[.slice A xs.length c] w fun e w' => e = .returned (.int .i64 (orI xs)) ∧ w = w' := by
 go_enter Tryd.func133, Tryd.ntmps133
 go_wp2
 go_loop [8] (fun i => ∃ k : Nat, k ≤ xs.length ∧ i = .int .i64 k ∧ orI xs = orI (xs.drop k)) (fun i => xs.length - (intOf i).toNat)
 case atStart => exact ⟨0, Nat.zero_le _, rfl, rfl⟩
 case round =>
  obtain ⟨k, hk, rfl, hr⟩ := hrel
  have Hr := Lib.hid hr
  clear hr
  by_cases hlt : k < xs.length
  ·obtain ⟨x, hx⟩ := get_some hlt
   obtain ⟨b, o, rfl, _, hb, hi, hcell⟩ := hA.int hx
   have Hd := Lib.hid (drop_cons hx)
   clear hx hA
   by_cases h0 : x = 0
   ·subst h0
    go_wp2
    go_round
    case rel => exact ⟨k + 1, by omega, by go_num, by rw [Hr.out, Hd.out]; simp [orI]⟩
    case measure => simp [intOf]; omega
   ·have h1 : (x != 0) = true := by simpa using h0
    have Hh := Lib.hid h0
    clear h0
    go_wp2
    go_ret
    exact ⟨ret_int (by rw [Hr.out, Hd.out, orI, if_neg Hh.out]), rfl⟩
  ·go_wp2
   go_ret
   exact ⟨ret_int (by rw [Hr.out, List.drop_of_length_le (by omega)]; rfl), rfl⟩
theorem or2_any (g c : Nat) (x y : Int) (w : World) (hx : I64 x) (hy : I64 y) (hc : 2 ≤ c) (hc' : c ≤ 9223372036854775807) (h0 : w.cell? ⟨g, 0, none⟩ = some (.int .i64 x)) (h1 : w.cell? ⟨g, 1, none⟩ = some (.int .i64 y)) :
  Calls Tryd.prog 133 #[.slice (some ⟨g, 0, none⟩) 2 c] w fun e w' => e = .returned (.int .i64 (orI [x, y])) ∧ w = w' :=
 or_any (some ⟨g, 0, none⟩) c [x, y] (fun _ => True) w hc hc' fun _ => ⟨g, 0, rfl, trivial, fun i z hi => by
  match i, hi with
  | 0, hi => simp at hi; subst hi; exact ⟨[.int .i64 x], ⟨rfl, hx⟩, fun j u hu => by match j, hu with | 0, hu => simp at hu; subst hu; exact h0⟩
  | 1, hi => simp at hi; subst hi; exact ⟨[.int .i64 y], ⟨rfl, hy⟩, fun j u hu => by match j, hu with | 0, hu => simp at hu; subst hu; exact h1⟩⟩
end Go.Proofs.YtjdojogjogenkaaDoor
/- Contracts: gram.Order, slices.CompareFunc at symbols with gram.Order, gram.Compare. -/
namespace Go.Proofs.YtjdojogjogenkaaDoor
open Go.RowKit
set_option linter.unusedVariables false
def symCmp (a b : Sym) : Int := if a.term = b.term then cmpI a.n b.n else if a.term then -1 else 1
def symsCmp : List Sym → List Sym → Int
 | [], [] => 0
 | [], _ :: _ => -1
 | _ :: _, [] => 1
 | x :: xs, y :: ys => if symCmp x y = 0 then symsCmp xs ys else symCmp x y
def ruleCmp (a b : Rule) : Int := orI [cmpI a.left b.left, symsCmp a.right b.right]
theorem symCmp_range (a b : Sym) : I64 (symCmp a b) := by
 unfold symCmp
 split
 ·exact cmpI_range _ _
 ·split <;> (unfold I64; omega)
theorem symsCmp_range : ∀ (a b : List Sym), I64 (symsCmp a b)
 | [], [] => by unfold symsCmp I64; omega
 | [], _ :: _ => by unfold symsCmp I64; omega
 | _ :: _, [] => by unfold symsCmp I64; omega
 | x :: xs, y :: ys => by
  unfold symsCmp
  split
  ·exact symsCmp_range xs ys
  ·exact symCmp_range x y
theorem order_any (t t' : Bool) (z z' : Int) (w : World) : Calls Tryd.prog 124 #[.agg #[.bool t, .int .i64 z], .agg #[.bool t', .int .i64 z']] w fun e w' => e = .returned (.int .i64 (symCmp ⟨t, z⟩ ⟨t', z'⟩)) ∧ Below w.heap.size w w' := by
 cases t <;> cases t' <;> (
  go_enter Tryd.func124, Tryd.ntmps124
  go_wp2_with (go_at_call 134; refine (cmpInt_any _ _ _).mono ?_; rintro e w' ⟨rfl, rfl⟩)
  go_ret
  exact ⟨ret_int (by simp [symCmp]), ((Below.refl _ _).alloc (Nat.le_refl _) _).alloc (by simp) _⟩)
set_option maxRecDepth 100000 in
set_option maxHeartbeats 400000 in
theorem compareFunc_any (A A' : Option Addr) (c c' : Nat) (xs ys : List Sym) (S : Nat → Prop) (w : World) (hm : xs.length ≤ 9223372036854775807) (hm' : ys.length ≤ 9223372036854775807) (hA : Els w S xs A) (hA' : Els w S ys A') :
  Calls Tryd.prog 138 #[.slice A xs.length c, .slice A' ys.length c', .func (.func 124) #[] #[]] w
   fun e w' => e = .returned (.int .i64 (symsCmp xs ys)) ∧ Below w.heap.size w w' := by
 go_enter Tryd.func138, Tryd.ntmps138
 go_wp2
 go_loopw [13] (fun i wr => ∃ k : Nat, k ≤ xs.length ∧ k ≤ ys.length ∧ i = .int .i64 k ∧ symsCmp xs ys = symsCmp (xs.drop k) (ys.drop k) ∧ Below w.heap.size w wr) (fun i _ => xs.length - (intOf i).toNat)
 case atStart => exact ⟨0, Nat.zero_le _, Nat.zero_le _, rfl, rfl, Below.refl _ _⟩
 case round =>
  obtain ⟨k, hk, hk', rfl, hr, hb⟩ := hrel
  have Hr := Lib.hid hr
  have Hb := Lib.hid hb
  have HA := (hA.below hb)
  have HA' := (hA'.below hb)
  clear hr hb hA hA'
  by_cases hlt : k < xs.length
  ·obtain ⟨x, hx⟩ := get_some hlt
   obtain ⟨b, o, rfl, _, hbs, hi, hc0, hc1⟩ := HA.sym hx
   have Hd := Lib.hid (drop_cons hx)
   clear hx HA
   by_cases hlt' : k < ys.length
   ·obtain ⟨y, hy⟩ := get_some hlt'
    obtain ⟨b', o', rfl, _, hbs', hi', hc0', hc1'⟩ := HA'.sym hy
    have Hd' := Lib.hid (drop_cons hy)
    clear hy HA'
    obtain ⟨t, z⟩ := x
    obtain ⟨t', z'⟩ := y
    dsimp only at hc0 hc1 hc0' hc1'
    go_wp2_with fail
    refine (order_any _ _ _ _ _).mono ?_
    rintro e w1 ⟨rfl, hb1⟩
    have Hb1 := Lib.hid hb1
    clear hb1 hc0 hc1 hc0' hc1'
    by_cases h0 : symCmp ⟨t, z⟩ ⟨t', z'⟩ = 0
    ·have e0 : symsCmp xs ys = symsCmp (xs.drop (k + 1)) (ys.drop (k + 1)) := by rw [Hr.out, Hd.out, Hd'.out, symsCmp, if_pos h0]
     have E0 := Lib.hid e0
     clear e0
     rw [h0]
     go_wp2
     go_roundw
     case rel => exact ⟨k + 1, by omega, by omega, by go_num, E0.out, (Hb.out).trans ((((Below.refl _ _).alloc (Nat.le_refl _) _).alloc (by simp) _).trans (Hb1.out.mono (by simp; omega)) |>.mono (Hb.out.size))⟩
     case measure => simp [intOf]; omega
    ·have e0 : symsCmp xs ys = symCmp ⟨t, z⟩ ⟨t', z'⟩ := by rw [Hr.out, Hd.out, Hd'.out, symsCmp, if_neg h0]
     have E0 := Lib.hid e0
     clear e0
     have h1 : (symCmp ⟨t, z⟩ ⟨t', z'⟩ != 0) = true := by simpa using h0
     clear h0
     go_wp2
     go_ret
     exact ⟨ret_int E0.out.symm, (Hb.out).trans ((((Below.refl _ _).alloc (Nat.le_refl _) _).alloc (by simp) _).trans (Hb1.out.mono (by simp; omega)) |>.mono (Hb.out.size))⟩
   ·have e0 : symsCmp xs ys = 1 := by rw [Hr.out, Hd.out, List.drop_of_length_le (l := ys) (i := k) (by omega)]; rfl
    have E0 := Lib.hid e0
    clear e0
    go_wp2
    go_ret
    exact ⟨ret_int E0.out.symm, (Hb.out).alloc Hb.out.size _⟩
  ·by_cases hlt' : k < ys.length
   ·obtain ⟨y, hy⟩ := get_some hlt'
    have e0 : symsCmp xs ys = -1 := by rw [Hr.out, drop_cons hy, List.drop_of_length_le (by omega)]; rfl
    have E0 := Lib.hid e0
    clear e0 hy HA HA'
    have : xs.length < ys.length := by omega
    go_wp2
    go_ret
    exact ⟨ret_int E0.out.symm, Hb.out⟩
   ·have e0 : symsCmp xs ys = 0 := by rw [Hr.out, List.drop_of_length_le (by omega), List.drop_of_length_le (by omega)]; rfl
    have E0 := Lib.hid e0
    clear e0 HA HA'
    have : ¬ xs.length < ys.length := by omega
    go_wp2
    go_ret
    exact ⟨ret_int E0.out.symm, Hb.out⟩
attribute [local go_sem ↓] Go.wp_at_zero Go.wp_at_succ
set_option maxRecDepth 100000 in
set_option maxHeartbeats 400000 in
theorem compare_any (l l' : Int) (A A' : Option Addr) (c c' : Nat) (xs ys : List Sym) (S : Nat → Prop) (w : World) (hm : xs.length ≤ 9223372036854775807) (hm' : ys.length ≤ 9223372036854775807) (hA : Els w S xs A) (hA' : Els w S ys A') :
  Calls Tryd.prog 104 #[.agg #[.int .i64 l, .slice A xs.length c], .agg #[.int .i64 l', .slice A' ys.length c']] w
   fun e w' => e = .returned (.int .i64 (ruleCmp ⟨l, xs⟩ ⟨l', ys⟩)) ∧ Below w.heap.size w w' := by
 go_enter Tryd.func104, Tryd.ntmps104
 go_wp2
 have z2 : w.heap.size < w.heap.size + 1 + 1 := by omega
 go_region_held3 (fun w' => w'.cell? ⟨w.heap.size, 0, none⟩ = some (.int .i64 l) ∧ w'.cell? ⟨w.heap.size, 1, none⟩ = some (.slice A xs.length c) ∧ w'.cell? ⟨w.heap.size + 1, 0, none⟩ = some (.int .i64 l') ∧ w'.cell? ⟨w.heap.size + 1, 1, none⟩ = some (.slice A' ys.length c')) (go_keep)
  (first
   | (go_at_call 134; refine (cmpInt_any _ _ _).mono ?_; rintro e w' ⟨rfl, rfl⟩)
   | (go_at_call 138; refine (compareFunc_any A A' c c' xs ys S _ hm hm' (hA.below ?_) (hA'.below ?_)).mono ?_; (repeat (first | exact Below.refl _ _ | refine Below.drew ?_ | refine Below.alloc ?_ (by simp) _)); (repeat (first | exact Below.refl _ _ | refine Below.drew ?_ | refine Below.alloc ?_ (by simp) _)); rintro e w1 ⟨rfl, hb1⟩; obtain ⟨hc1, hf1⟩ := bcell hb1)
   | (go_at_call 133; refine (or2_any _ _ (cmpI l l') (symsCmp xs ys) _ ?_ ?_ ?_ ?_ ?_ ?_).mono ?_; exact cmpI_range _ _; exact symsCmp_range _ _; omega; omega; exact World.cell?_alloc_new _ _ _ _; exact World.cell?_alloc_new _ _ _ _; rintro e w' ⟨rfl, rfl⟩))
 all_goals
  clear hc1 hf1
  go_wp2
  go_ret
  exact ⟨ret_int rfl, (bthen (((Below.refl _ _).alloc (Nat.le_refl _) _).alloc (by simp) _).drew hb1 (by simp; omega)).alloc (by have := hb1.size; simp at this; omega) _⟩
end Go.Proofs.YtjdojogjogenkaaDoor
/- Contracts: slices.IndexFunc and slices.ContainsFunc at symbols, at whatever predicate. -/
namespace Go.Proofs.YtjdojogjogenkaaDoor
open Go.RowKit
set_option linter.unusedVariables false
set_option maxRecDepth 100000 in
theorem idxSym_any (A : Option Addr) (c : Nat) (xs : List Sym) (S : Nat → Prop) (w : World) (F : Nat) (cap : Value) (p : Sym → Bool) (hm : xs.length ≤ 9223372036854775807) (hA : Els w S xs A) (hgo : IsGo F)
  (hcall : ∀ (x : Sym) (W : World), x ∈ xs → Below w.heap.size w W → Calls Tryd.prog F #[.agg #[.bool x.term, .int .i64 x.n], cap] W fun e W' => e = .returned (.bool (p x)) ∧ Below W.heap.size W W') :
  Calls Tryd.prog 137 #[.slice A xs.length c, .func (.func F) #[] #[cap]] w fun e w' => e = .returned (.int .i64 (idxI p xs)) ∧ Below w.heap.size w w' := by
 have HC := Lib.hid hcall
 have hgo' : ∀ (args : Array Value) (W : World), (callFunc F args).run Tryd.prog W = .ok (.enter F args) W := hgo
 clear hcall hgo
 go_enter Tryd.func137, Tryd.ntmps137
 go_wp2
 go_loopw [8] (fun i wr => ∃ k : Nat, k ≤ xs.length ∧ i = .int .i64 k ∧ (∀ y ∈ xs.take k, p y = false) ∧ Below w.heap.size w wr) (fun i _ => xs.length - (intOf i).toNat)
 case atStart => exact ⟨0, Nat.zero_le _, rfl, by simp, Below.refl _ _⟩
 case round =>
  obtain ⟨k, hk, rfl, hno, hb⟩ := hrel
  have HN := Lib.hid hno
  have HB := Lib.hid hb
  clear hno hb
  by_cases hlt : k < xs.length
  ·obtain ⟨x, hx⟩ := get_some hlt
   obtain ⟨b, o, rfl, _, hbs, hi, hc0, hc1⟩ := (hA.below HB.out).sym hx
   have HX := Lib.hid hx
   have HM := Lib.hid (List.mem_of_getElem? hx)
   clear hx
   have hk0 : (0 : Int) ≤ (k : Int) := by omega
   have hk1 : (k : Int) < (xs.length : Int) := by omega
   go_wp2_with fail
   refine (HC.out x _ HM.out HB.out).mono ?_
   rintro e w1 ⟨rfl, hb1⟩
   have HB1 := Lib.hid hb1
   clear hb1
   cases hp : p x
   ·go_wp2
    go_roundw
    case rel => exact ⟨k + 1, by omega, by go_num, by
     rw [take_snoc HX.out]
     intro y hy
     rcases List.mem_append.1 hy with h | h
     ·exact HN.out y h
     ·simp at h; subst h; exact hp, bthen HB.out HB1.out HB.out.size⟩
    case measure => simp [intOf]; omega
   ·have E0 := Lib.hid (idxI_hit HX.out hp HN.out)
    clear hp
    go_wp2
    go_ret
    exact ⟨ret_int E0.out.symm, bthen HB.out HB1.out HB.out.size⟩
  ·have E0 := Lib.hid (show idxI p xs = -1 from idxI_none (by have h := HN.out; rwa [List.take_of_length_le (by omega)] at h))
   go_wp2
   go_ret
   exact ⟨ret_int E0.out.symm, HB.out⟩
theorem contSym_any (A : Option Addr) (c : Nat) (xs : List Sym) (S : Nat → Prop) (w : World) (F : Nat) (cap : Value) (p : Sym → Bool) (hm : xs.length ≤ 9223372036854775807) (hA : Els w S xs A) (hgo : IsGo F)
  (hcall : ∀ (x : Sym) (W : World), x ∈ xs → Below w.heap.size w W → Calls Tryd.prog F #[.agg #[.bool x.term, .int .i64 x.n], cap] W fun e W' => e = .returned (.bool (p x)) ∧ Below W.heap.size W W') :
  Calls Tryd.prog 100 #[.slice A xs.length c, .func (.func F) #[] #[cap]] w fun e w' => e = .returned (.bool (xs.any p)) ∧ Below w.heap.size w w' := by
 have HC := Lib.hid hcall
 have HG := Lib.hid hgo
 have HA := Lib.hid hA
 clear hcall hgo hA
 go_enter Tryd.func100, Tryd.ntmps100
 go_wp2_with fail
 refine (idxSym_any A c xs S w F cap p hm HA.out HG.out HC.out).mono ?_
 rintro e w1 ⟨rfl, hb1⟩
 go_wp2
 go_ret
 exact ⟨ret_bool (idxI_nonneg p xs), hb1⟩
theorem contSym_n (A : Option Addr) (n c : Nat) (xs : List Sym) (hn : n = xs.length) (S : Nat → Prop) (w : World) (F : Nat) (cap : Value) (p : Sym → Bool) (hm : xs.length ≤ 9223372036854775807) (hA : Els w S xs A) (hgo : IsGo F)
  (hcall : ∀ (x : Sym) (W : World), x ∈ xs → Below w.heap.size w W → Calls Tryd.prog F #[.agg #[.bool x.term, .int .i64 x.n], cap] W fun e W' => e = .returned (.bool (p x)) ∧ Below W.heap.size W W') :
  Calls Tryd.prog 100 #[.slice A n c, .func (.func F) #[] #[cap]] w fun e w' => e = .returned (.bool (xs.any p)) ∧ Below w.heap.size w w' := by
 subst hn; exact contSym_any A c xs S w F cap p hm hA hgo hcall
end Go.Proofs.YtjdojogjogenkaaDoor
/- Contracts: slices.IndexFunc and slices.ContainsFunc at rules, at whatever predicate. -/
namespace Go.Proofs.YtjdojogjogenkaaDoor
open Go.RowKit
set_option linter.unusedVariables false
set_option maxRecDepth 100000 in
theorem idxRule_any (A : Option Addr) (c : Nat) (xs : List Rule) (S : Nat → Prop) (w : World) (F : Nat) (cap : Value) (p : Rule → Bool) (hm : xs.length ≤ 9223372036854775807) (hA : Els w S xs A) (hgo : IsGo F)
  (hcall : ∀ (x : Rule) (W : World), x ∈ xs → Below w.heap.size w W → ∀ (A' : Option Addr) (c' : Nat), x.right.length ≤ c' → c' ≤ 9223372036854775807 → Els W S x.right A' → Calls Tryd.prog F #[.agg #[.int .i64 x.left, .slice A' x.right.length c'], cap] W fun e W' => e = .returned (.bool (p x)) ∧ Below W.heap.size W W') :
  Calls Tryd.prog 118 #[.slice A xs.length c, .func (.func F) #[] #[cap]] w fun e w' => e = .returned (.int .i64 (idxI p xs)) ∧ Below w.heap.size w w' := by
 have HC := Lib.hid hcall
 have hgo' : ∀ (args : Array Value) (W : World), (callFunc F args).run Tryd.prog W = .ok (.enter F args) W := hgo
 clear hcall hgo
 go_enter Tryd.func118, Tryd.ntmps118
 go_wp2
 go_loopw [8] (fun i wr => ∃ k : Nat, k ≤ xs.length ∧ i = .int .i64 k ∧ (∀ y ∈ xs.take k, p y = false) ∧ Below w.heap.size w wr) (fun i _ => xs.length - (intOf i).toNat)
 case atStart => exact ⟨0, Nat.zero_le _, rfl, by simp, Below.refl _ _⟩
 case round =>
  obtain ⟨k, hk, rfl, hno, hb⟩ := hrel
  have HN := Lib.hid hno
  have HB := Lib.hid hb
  clear hno hb
  by_cases hlt : k < xs.length
  ·obtain ⟨x, hx⟩ := get_some hlt
   obtain ⟨b, o, A1, c1, rfl, _, hbs, hi, hl1, hl2, hE1, hc0, hc1⟩ := (hA.below HB.out).rule hx
   have HE1 := Lib.hid hE1
   clear hE1
   have HX := Lib.hid hx
   have HM := Lib.hid (List.mem_of_getElem? hx)
   clear hx
   have hk0 : (0 : Int) ≤ (k : Int) := by omega
   have hk1 : (k : Int) < (xs.length : Int) := by omega
   go_wp2_with fail
   refine (HC.out x _ HM.out HB.out A1 c1 hl1 hl2 HE1.out).mono ?_
   rintro e w1 ⟨rfl, hb1⟩
   have HB1 := Lib.hid hb1
   clear hb1
   cases hp : p x
   ·go_wp2
    go_roundw
    case rel => exact ⟨k + 1, by omega, by go_num, by
     rw [take_snoc HX.out]
     intro y hy
     rcases List.mem_append.1 hy with h | h
     ·exact HN.out y h
     ·simp at h; subst h; exact hp, bthen HB.out HB1.out HB.out.size⟩
    case measure => simp [intOf]; omega
   ·have E0 := Lib.hid (idxI_hit HX.out hp HN.out)
    clear hp
    go_wp2
    go_ret
    exact ⟨ret_int E0.out.symm, bthen HB.out HB1.out HB.out.size⟩
  ·have E0 := Lib.hid (show idxI p xs = -1 from idxI_none (by have h := HN.out; rwa [List.take_of_length_le (by omega)] at h))
   go_wp2
   go_ret
   exact ⟨ret_int E0.out.symm, HB.out⟩
theorem contRule_any (A : Option Addr) (c : Nat) (xs : List Rule) (S : Nat → Prop) (w : World) (F : Nat) (cap : Value) (p : Rule → Bool) (hm : xs.length ≤ 9223372036854775807) (hA : Els w S xs A) (hgo : IsGo F)
  (hcall : ∀ (x : Rule) (W : World), x ∈ xs → Below w.heap.size w W → ∀ (A' : Option Addr) (c' : Nat), x.right.length ≤ c' → c' ≤ 9223372036854775807 → Els W S x.right A' → Calls Tryd.prog F #[.agg #[.int .i64 x.left, .slice A' x.right.length c'], cap] W fun e W' => e = .returned (.bool (p x)) ∧ Below W.heap.size W W') :
  Calls Tryd.prog 73 #[.slice A xs.length c, .func (.func F) #[] #[cap]] w fun e w' => e = .returned (.bool (xs.any p)) ∧ Below w.heap.size w w' := by
 have HC := Lib.hid hcall
 have HG := Lib.hid hgo
 have HA := Lib.hid hA
 clear hcall hgo hA
 go_enter Tryd.func73, Tryd.ntmps73
 go_wp2_with fail
 refine (idxRule_any A c xs S w F cap p hm HA.out HG.out HC.out).mono ?_
 rintro e w1 ⟨rfl, hb1⟩
 go_wp2
 go_ret
 exact ⟨ret_bool (idxI_nonneg p xs), hb1⟩
theorem contRule_n (A : Option Addr) (n c : Nat) (xs : List Rule) (hn : n = xs.length) (S : Nat → Prop) (w : World) (F : Nat) (cap : Value) (p : Rule → Bool) (hm : xs.length ≤ 9223372036854775807) (hA : Els w S xs A) (hgo : IsGo F)
  (hcall : ∀ (x : Rule) (W : World), x ∈ xs → Below w.heap.size w W → ∀ (A' : Option Addr) (c' : Nat), x.right.length ≤ c' → c' ≤ 9223372036854775807 → Els W S x.right A' → Calls Tryd.prog F #[.agg #[.int .i64 x.left, .slice A' x.right.length c'], cap] W fun e W' => e = .returned (.bool (p x)) ∧ Below W.heap.size W W') :
  Calls Tryd.prog 73 #[.slice A n c, .func (.func F) #[] #[cap]] w fun e w' => e = .returned (.bool (xs.any p)) ∧ Below w.heap.size w w' := by
 subst hn; exact contRule_any A c xs S w F cap p hm hA hgo hcall
end Go.Proofs.YtjdojogjogenkaaDoor
/- Contracts: gram.Has, gram.Check. -/
namespace Go.Proofs.YtjdojogjogenkaaDoor
open Go.RowKit
set_option linter.unusedVariables false
def symIn (t n : Int) (s : Sym) : Bool := decide (0 ≤ s.n) && (if s.term then decide (s.n < t) else decide (s.n < n))
theorem gHas_any (t n s0 : Int) (sl : Value) (st : Bool) (sn : Int) (w : World) (hsl : ∃ A k c, sl = .slice A k c) :
  Calls Tryd.prog 102 #[.agg #[.int .i64 t, .int .i64 n, .int .i64 s0, sl], .agg #[.bool st, .int .i64 sn]] w
   fun e w' => e = .returned (.bool (symIn t n ⟨st, sn⟩)) ∧ Below w.heap.size w w' := by
 obtain ⟨A, k, c, rfl⟩ := hsl
 have hb : ∀ o1 o2, Below w.heap.size w ((w.alloc o1).alloc o2) := fun o1 o2 => ((Below.refl _ _).alloc (Nat.le_refl _) _).alloc (by simp) _
 by_cases h0 : 0 ≤ sn
 ·cases st
  ·by_cases h1 : sn < n
   ·have E := Lib.hid (show symIn t n ⟨false, sn⟩ = true by simp [symIn, h0, h1])
    go_enter Tryd.func102, Tryd.ntmps102
    go_wp2
    go_ret
    exact ⟨ret_bool E.out.symm, hb _ _⟩
   ·have E := Lib.hid (show symIn t n ⟨false, sn⟩ = false by simp [symIn, h1])
    go_enter Tryd.func102, Tryd.ntmps102
    go_wp2
    go_ret
    exact ⟨ret_bool E.out.symm, hb _ _⟩
  ·by_cases h1 : sn < t
   ·have E := Lib.hid (show symIn t n ⟨true, sn⟩ = true by simp [symIn, h0, h1])
    go_enter Tryd.func102, Tryd.ntmps102
    go_wp2
    go_ret
    exact ⟨ret_bool E.out.symm, hb _ _⟩
   ·have E := Lib.hid (show symIn t n ⟨true, sn⟩ = false by simp [symIn, h1])
    go_enter Tryd.func102, Tryd.ntmps102
    go_wp2
    go_ret
    exact ⟨ret_bool E.out.symm, hb _ _⟩
 ·have E := Lib.hid (show symIn t n ⟨st, sn⟩ = false by simp [symIn, h0])
  go_enter Tryd.func102, Tryd.ntmps102
  go_wp2
  go_ret
  exact ⟨ret_bool E.out.symm, hb _ _⟩
theorem check1_any (t n s0 : Int) (A : Option Addr) (k c G : Nat) (st : Bool) (sn : Int) (w : World) (g0 : w.cell? ⟨G, 0, none⟩ = some (.int .i64 t)) (g1 : w.cell? ⟨G, 1, none⟩ = some (.int .i64 n)) (g2 : w.cell? ⟨G, 2, none⟩ = some (.int .i64 s0)) (g3 : w.cell? ⟨G, 3, none⟩ = some (.slice A k c)) :
  Calls Tryd.prog 101 #[.agg #[.bool st, .int .i64 sn], .pointer (some ⟨G, 0, none⟩)] w
   fun e w' => e = .returned (.bool (!symIn t n ⟨st, sn⟩)) ∧ Below w.heap.size w w' := by
 have hG : G < w.heap.size := World.block_lt_of_cell? w _ g0
 go_enter Tryd.func101, Tryd.ntmps101
 go_wp2_with fail
 refine (gHas_any t n s0 _ st sn _ ⟨A, k, c, rfl⟩).mono ?_
 rintro e w1 ⟨rfl, hb1⟩
 have HB := Lib.hid hb1
 clear hb1
 go_wp2
 go_ret
 exact ⟨rfl, bthen ((Below.refl _ _).alloc (Nat.le_refl _) _) HB.out (by simp)⟩
theorem check2_any (l l' : Int) (A A' : Option Addr) (c c' G : Nat) (xs ys : List Sym) (S : Nat → Prop) (w : World) (hm : xs.length ≤ 9223372036854775807) (hm' : ys.length ≤ 9223372036854775807) (hA : Els w S xs A) (hA' : Els w S ys A')
  (g0 : w.cell? ⟨G, 0, none⟩ = some (.int .i64 l')) (g1 : w.cell? ⟨G, 1, none⟩ = some (.slice A' ys.length c')) :
  Calls Tryd.prog 103 #[.agg #[.int .i64 l, .slice A xs.length c], .pointer (some ⟨G, 0, none⟩)] w
   fun e w' => e = .returned (.bool (ruleCmp ⟨l, xs⟩ ⟨l', ys⟩ == 0)) ∧ Below w.heap.size w w' := by
 have hG : G < w.heap.size := World.block_lt_of_cell? w _ g0
 have hb := (Below.refl w.heap.size w).alloc (Nat.le_refl _) (.cells #[.int .i64 l, .slice A xs.length c] 60)
 go_enter Tryd.func103, Tryd.ntmps103
 go_wp2_with fail
 refine (compare_any l l' A A' c c' xs ys S _ hm hm' (hA.below hb) (hA'.below hb)).mono ?_
 rintro e w1 ⟨rfl, hb1⟩
 have HB := Lib.hid hb1
 have Hb := Lib.hid hb
 clear hb1 hb
 go_wp2
 go_ret
 exact ⟨rfl, bthen Hb.out HB.out (by simp)⟩
def chkFrom (t n : Int) : List Rule → List Rule → Int
 | _, [] => 0
 | pre, r :: rs => if r.left < 0 ∨ n ≤ r.left then 3 else if 4 < r.right.length then 2 else if r.right.any (fun s => !symIn t n s) then 3 else if pre.any (fun x => ruleCmp x r == 0) then 6 else chkFrom t n (pre ++ [r]) rs
def gramBad (g : Gram) : Prop := g.terms < 1 ∨ 8 < g.terms ∨ g.nons < 1 ∨ 10 < g.nons ∨ g.start < 0 ∨ g.nons ≤ g.start
instance instDecBad (g : Gram) : Decidable (gramBad g) := by unfold gramBad; infer_instance
def checkI (g : Gram) : Int := if gramBad g then 1 else if 32 < g.rules.length then 2 else chkFrom g.terms g.nons [] g.rules
def BoolOf (P : Prop) (v : Value) : Prop := ∃ b : Bool, v = .bool b ∧ (b = true ↔ P)
theorem Els.take {α : Type} [Dat α] {w : World} {S : Nat → Prop} {xs : List α} {A : Option Addr} (h : Els w S xs A) (k : Nat) : Els w S (xs.take k) A := by
 intro hne
 obtain ⟨b, o, hA, hb, hx⟩ := h (by rintro rfl; simp at hne)
 refine ⟨b, o, hA, hb, fun i x hi => hx i x ?_⟩
 rw [List.getElem?_take] at hi
 split at hi
 ·exact hi
 ·cases hi
def CheckL (g : Gram) (A : Option Addr) (c : Nat) (w : World) (i : Value) (wr : World) : Prop :=
 ∃ k : Nat, k ≤ g.rules.length ∧ i = .int .i64 k ∧ checkI g = chkFrom g.terms g.nons (g.rules.take k) (g.rules.drop k) ∧ Below w.heap.size w wr ∧ Blk' wr w.heap.size 24 #[.int .i64 g.terms, .int .i64 g.nons, .int .i64 g.start, .slice A g.rules.length c]
set_option maxRecDepth 100000 in
set_option maxHeartbeats 1000000 in
theorem check_any (g : Gram) (A : Option Addr) (c : Nat) (S : Nat → Prop) (w : World) (hlc : g.rules.length ≤ c) (hc : c ≤ 9223372036854775807) (hA : Els w S g.rules A) :
  Calls Tryd.prog 59 #[.agg #[.int .i64 g.terms, .int .i64 g.nons, .int .i64 g.start, .slice A g.rules.length c]] w
   fun e w' => e = .returned (.int .i64 (checkI g)) ∧ Below w.heap.size w w' := by
 obtain ⟨t, n, s0, rs⟩ := g
 dsimp only at *
 go_enter Tryd.func59, Tryd.ntmps59
 go_upto_region 1 with fail
 go_cut [34] (fun v wx => wx = w.alloc (.cells #[.int .i64 t, .int .i64 n, .int .i64 s0, .slice A rs.length c] 24) ∧ BoolOf (gramBad ⟨t, n, s0, rs⟩) v)
 case first =>
  by_cases k1 : t < 1
  ·go_wp2_with fail
   go_meet
   exact ⟨rfl, true, rfl, by simp [gramBad]; omega⟩
  ·by_cases k2 : 8 < t
   ·go_wp2_with fail
    go_meet
    exact ⟨rfl, true, rfl, by simp [gramBad]; omega⟩
   ·by_cases k3 : n < 1
    ·go_wp2_with fail
     go_meet
     exact ⟨rfl, true, rfl, by simp [gramBad]; omega⟩
    ·by_cases k4 : 10 < n
     ·go_wp2_with fail
      go_meet
      exact ⟨rfl, true, rfl, by simp [gramBad]; omega⟩
     ·by_cases k5 : s0 < 0
      ·go_wp2_with fail
       go_meet
       exact ⟨rfl, true, rfl, by simp [gramBad]; omega⟩
      ·by_cases k6 : n ≤ s0
       ·go_wp2_with fail
        go_meet
        exact ⟨rfl, true, rfl, by simp [gramBad]; omega⟩
       ·go_wp2_with fail
        go_meet
        exact ⟨rfl, false, rfl, by simp [gramBad]; omega⟩
 case rest =>
  obtain ⟨hw, b, rfl, hbad⟩ := hcut
  subst hw
  have hb0 : Below w.heap.size w (w.alloc (.cells #[.int .i64 t, .int .i64 n, .int .i64 s0, .slice A rs.length c] 24)) := (Below.refl _ _).alloc (Nat.le_refl _) _
  have HB0 := Lib.hid hb0
  clear hb0
  cases b
  ·have hnb : ¬ gramBad ⟨t, n, s0, rs⟩ := fun h => by have := hbad.2 h; cases this
   clear hbad
   by_cases h32 : 32 < rs.length
   ·have E := Lib.hid (show checkI ⟨t, n, s0, rs⟩ = 2 by simp [checkI, hnb, h32])
    clear hnb
    have h32' : (32 : Int) < (rs.length : Int) := by omega
    go_wp2
    go_ret
    exact ⟨ret_int E.out.symm, HB0.out⟩
   ·have E := Lib.hid (show checkI ⟨t, n, s0, rs⟩ = chkFrom t n [] rs by simp [checkI, hnb, h32])
    clear hnb
    have h32' : ¬ (32 : Int) < (rs.length : Int) := by omega
    go_wp2
    go_loopw [42] (fun i wr => CheckL ⟨t, n, s0, rs⟩ A c w i wr) (fun i _ => rs.length - (intOf i).toNat)
    case atStart => exact ⟨0, Nat.zero_le _, rfl, by simpa using E.out, HB0.out, Blk'.new _ _ _⟩
    case round =>
     obtain ⟨wo, hwo⟩ : ∃ wo : World, wo = wr := ⟨_, rfl⟩
     subst hwo
     obtain ⟨k, hk, rfl, hr, hb, hG⟩ := hrel
     dsimp only at hk hr
     have Hr := Lib.hid hr
     have HB := Lib.hid hb
     have HG := Lib.hid hG
     have g1 : wo.cell? ⟨w.heap.size, 1, none⟩ = some (.int .i64 n) := hG.cell 1
     have g3 : wo.cell? ⟨w.heap.size, 3, none⟩ = some (.slice A rs.length c) := hG.cell 3
     have hGl := hG.lt
     clear hr hb hG E HB0
     by_cases hlt : k < rs.length
     ·obtain ⟨r, hx⟩ := get_some hlt
      obtain ⟨b, o, Ar, cr, rfl, hSb, hbs, hi, hrc, hcr, hEr, hc0, hc1⟩ := (hA.below HB.out).rule hx
      have Hd := Lib.hid (drop_cons hx)
      have Ht := Lib.hid (take_snoc hx)
      have HEr := Lib.hid hEr
      have HE := Lib.hid (hA.below HB.out)
      clear hx hEr
      obtain ⟨l, rr⟩ := r
      dsimp only at *
      have hk0 : (0 : Int) ≤ (k : Int) := by omega
      have hk1 : (k : Int) ≤ (c : Int) := by omega
      by_cases hl : l < 0 ∨ n ≤ l
      ·have E := Lib.hid (show checkI ⟨t, n, s0, rs⟩ = 3 by rw [Hr.out, Hd.out, chkFrom, if_pos hl])
       by_cases hl0 : l < 0
       ·clear hl
        go_wp2
        go_ret
        exact ⟨ret_int E.out.symm, HB.out.alloc HB.out.size _⟩
       ·have hl1 : n ≤ l := by omega
        clear hl
        go_wp2
        go_ret
        exact ⟨ret_int E.out.symm, HB.out.alloc HB.out.size _⟩
      ·have hl0 : ¬ l < 0 := by omega
       have hl1 : ¬ n ≤ l := by omega
       have E1 := Lib.hid (show checkI ⟨t, n, s0, rs⟩ = if 4 < rr.length then 2 else if rr.any (fun s => !symIn t n s) then 3 else if (rs.take k).any (fun x => ruleCmp x ⟨l, rr⟩ == 0) then 6 else chkFrom t n (rs.take k ++ [⟨l, rr⟩]) (rs.drop (k + 1)) by rw [Hr.out, Hd.out, chkFrom, if_neg hl])
       clear hl
       by_cases h4 : 4 < rr.length
       ·have E := Lib.hid (show checkI ⟨t, n, s0, rs⟩ = 2 by rw [E1.out, if_pos h4])
        have h4' : (4 : Int) < (rr.length : Int) := by omega
        go_wp2
        go_ret
        exact ⟨ret_int E.out.symm, HB.out.alloc HB.out.size _⟩
       ·have h4' : ¬ (4 : Int) < (rr.length : Int) := by omega
        have hba : Below wo.heap.size wo (wo.alloc (.cells #[.int .i64 l, .slice Ar rr.length cr] 60)) := (Below.refl _ _).alloc (Nat.le_refl _) _
        have HG1 := Lib.hid (HG.out.alloc (.cells #[.int .i64 l, .slice Ar rr.length cr] 60))
        have HE1 := Lib.hid (HEr.out.below hba)
        have hcl1 : ∀ (x : Sym) (W : World), x ∈ rr → Below (wo.alloc (.cells #[.int .i64 l, .slice Ar rr.length cr] 60)).heap.size (wo.alloc (.cells #[.int .i64 l, .slice Ar rr.length cr] 60)) W →
          Calls Tryd.prog 101 #[.agg #[.bool x.term, .int .i64 x.n], .pointer (some ⟨w.heap.size, 0, none⟩)] W fun e W' => e = .returned (.bool (!symIn t n x)) ∧ Below W.heap.size W W' := fun x W _ hW =>
         have hGW := HG1.out.below hW HG1.out.lt
         check1_any t n s0 (some ⟨b, o, none⟩) rs.length c w.heap.size x.term x.n W (hGW.cell 0) (hGW.cell 1) (hGW.cell 2) (hGW.cell 3)
        have HC1 := Lib.hid hcl1
        have Hba := Lib.hid hba
        clear hcl1 hba
        go_wp2_with fail
        refine (contSym_any Ar cr rr S _ _ _ (fun s => !symIn t n s) (by omega) HE1.out (isGo_of Tryd.func101 (by kernel_rfl) (by kernel_rfl)) HC1.out).mono ?_
        rintro e w1 ⟨rfl, hb1⟩
        have Hb1 := Lib.hid (bthen Hba.out hb1 (by simp))
        have hG1 := HG1.out.below hb1 HG1.out.lt
        have hR1 := (Blk'.new wo 60 #[.int .i64 l, .slice Ar rr.length cr]).below hb1 (by simp)
        have HG2 := Lib.hid hG1
        have HR2 := Lib.hid hR1
        have g13 : w1.cell? ⟨w.heap.size, 3, none⟩ = some (.slice (some ⟨b, o, none⟩) rs.length c) := hG1.cell 3
        clear hb1 hG1 hR1 HG1 HE1 HC1 Hba
        cases ha : rr.any (fun s => !symIn t n s)
        ·have E2 := Lib.hid (show checkI ⟨t, n, s0, rs⟩ = if (rs.take k).any (fun x => ruleCmp x ⟨l, rr⟩ == 0) then 6 else chkFrom t n (rs.take k ++ [⟨l, rr⟩]) (rs.drop (k + 1)) by rw [E1.out, if_neg h4, ha]; rfl)
         clear ha E1
         have HE2 := Lib.hid ((HE.out.below Hb1.out).take k)
         have HEr2 := Lib.hid (HEr.out.below Hb1.out)
         have hcl2 : ∀ (x : Rule) (W : World), x ∈ rs.take k → Below w1.heap.size w1 W → ∀ (A' : Option Addr) (c' : Nat), x.right.length ≤ c' → c' ≤ 9223372036854775807 → Els W S x.right A' →
           Calls Tryd.prog 103 #[.agg #[.int .i64 x.left, .slice A' x.right.length c'], .pointer (some ⟨wo.heap.size, 0, none⟩)] W fun e W' => e = .returned (.bool (ruleCmp x ⟨l, rr⟩ == 0)) ∧ Below W.heap.size W W' := fun x W _ hW A' c' q1 q2 q3 =>
          have hRW := HR2.out.below hW HR2.out.lt
          check2_any x.left l A' Ar c' cr wo.heap.size x.right rr S W (by omega) (by omega) q3 (HEr2.out.below hW) (hRW.cell 0) (hRW.cell 1)
         have HC2 := Lib.hid hcl2
         clear hcl2
         go_wp2_with fail
         refine (contRule_n (some ⟨b, o, none⟩) k c (rs.take k) (by simp; omega) S _ _ _ (fun x => ruleCmp x ⟨l, rr⟩ == 0) (by simp; omega) HE2.out (isGo_of Tryd.func103 (by kernel_rfl) (by kernel_rfl)) HC2.out).mono ?_
         rintro e w2 ⟨rfl, hb2⟩
         have Hb2 := Lib.hid hb2
         clear hb2
         have hzz : w.heap.size ≤ w1.heap.size := Nat.le_trans HB.out.size Hb1.out.size
         cases ha : (rs.take k).any (fun x => ruleCmp x ⟨l, rr⟩ == 0)
         ·have E3 := Lib.hid (show checkI ⟨t, n, s0, rs⟩ = chkFrom t n (rs.take (k + 1)) (rs.drop (k + 1)) by rw [E2.out, ha, Ht.out]; rfl)
          clear ha
          go_wp2
          go_roundw
          case rel => exact ⟨k + 1, hlt, by go_num, E3.out, bthen (bthen HB.out Hb1.out HB.out.size) Hb2.out hzz, HG2.out.below Hb2.out HG2.out.lt⟩
          case measure => simp [intOf]; omega
         ·have E := Lib.hid (show checkI ⟨t, n, s0, rs⟩ = 6 by rw [E2.out, ha]; rfl)
          clear ha
          go_wp2
          go_ret
          exact ⟨ret_int E.out.symm, bthen (bthen HB.out Hb1.out HB.out.size) Hb2.out hzz⟩
        ·have E := Lib.hid (show checkI ⟨t, n, s0, rs⟩ = 3 by rw [E1.out, if_neg h4, ha]; rfl)
         clear ha
         go_wp2
         go_ret
         exact ⟨ret_int E.out.symm, bthen HB.out Hb1.out HB.out.size⟩
     ·have E := Lib.hid (show checkI ⟨t, n, s0, rs⟩ = 0 by rw [Hr.out, List.drop_of_length_le (by omega)]; rfl)
      go_wp2
      go_ret
      exact ⟨ret_int E.out.symm, HB.out⟩
  ·have E := Lib.hid (show checkI ⟨t, n, s0, rs⟩ = 1 by rw [checkI, if_pos (hbad.1 rfl)])
   clear hbad
   go_wp2
   go_ret
   exact ⟨ret_int E.out.symm, HB0.out⟩
end Go.Proofs.YtjdojogjogenkaaDoor
/- What a valid grammar is, off the value that gram.Check returns. -/
namespace Go.Proofs.YtjdojogjogenkaaDoor
open Go.RowKit
set_option linter.unusedVariables false
structure ValidG (g : Gram) : Prop where
 t1 : 1 ≤ g.terms
 t8 : g.terms ≤ 8
 n1 : 1 ≤ g.nons
 n10 : g.nons ≤ 10
 s0 : 0 ≤ g.start
 s1 : g.start < g.nons
 len : g.rules.length ≤ 32
 rules : ∀ q ∈ g.rules, 0 ≤ q.left ∧ q.left < g.nons ∧ q.right.length ≤ 4 ∧ ∀ x ∈ q.right, 0 ≤ x.n ∧ if x.term then x.n < g.terms else x.n < g.nons
theorem symIn_true {t n : Int} {s : Sym} (h : symIn t n s = true) : 0 ≤ s.n ∧ if s.term then s.n < t else s.n < n := by
 obtain ⟨b, k⟩ := s
 cases b <;> simp_all [symIn]
theorem chkFrom_zero {t n : Int} : ∀ (pre rs : List Rule), chkFrom t n pre rs = 0 → ∀ q ∈ rs, 0 ≤ q.left ∧ q.left < n ∧ q.right.length ≤ 4 ∧ ∀ x ∈ q.right, 0 ≤ x.n ∧ if x.term then x.n < t else x.n < n
 | _, [], _, q, hq => by simp at hq
 | pre, r :: rs, h, q, hq => by
  unfold chkFrom at h
  split at h
  ·cases h
  split at h
  ·cases h
  split at h
  ·cases h
  split at h
  ·cases h
  rename_i h1 h2 h3 h4
  rcases List.mem_cons.1 hq with rfl | hq
  ·refine ⟨by omega, by omega, by omega, fun x hx => symIn_true ?_⟩
   simp only [List.any_eq_true, not_exists, not_and] at h3
   have := h3 x hx
   simpa using this
  ·exact chkFrom_zero _ rs h q hq
theorem validG_of {g : Gram} (h : checkI g = 0) : ValidG g := by
 unfold checkI at h
 split at h
 ·cases h
 split at h
 ·cases h
 rename_i h1 h2
 unfold gramBad at h1
 exact ⟨by omega, by omega, by omega, by omega, by omega, by omega, by omega, chkFrom_zero _ _ h⟩
theorem ValidG.i64 {g : Gram} (h : ValidG g) : I64 g.terms ∧ I64 g.nons ∧ I64 g.start := by
 have := h.t1; have := h.t8; have := h.n1; have := h.n10; have := h.s0; have := h.s1
 unfold I64; omega
end Go.Proofs.YtjdojogjogenkaaDoor
/- Contracts: slices.IndexFunc and slices.ContainsFunc at ints, at whatever predicate. -/
namespace Go.Proofs.YtjdojogjogenkaaDoor
open Go.RowKit
set_option linter.unusedVariables false
set_option maxRecDepth 100000 in
theorem idxInt_any (A : Option Addr) (c : Nat) (xs : List Int) (S : Nat → Prop) (w : World) (F : Nat) (caps : Array Value) (p : Int → Bool) (hm : xs.length ≤ 9223372036854775807) (hA : Els w S xs A) (hgo : IsGo F)
  (hcall : ∀ (x : Int) (W : World), x ∈ xs → Below w.heap.size w W → Calls Tryd.prog F (#[.int .i64 x] ++ caps) W fun e W' => e = .returned (.bool (p x)) ∧ Below W.heap.size W W') :
  Calls Tryd.prog 151 #[.slice A xs.length c, .func (.func F) #[] caps] w fun e w' => e = .returned (.int .i64 (idxI p xs)) ∧ Below w.heap.size w w' := by
 have HC := Lib.hid hcall
 have hgo' : ∀ (args : Array Value) (W : World), (callFunc F args).run Tryd.prog W = .ok (.enter F args) W := hgo
 clear hcall hgo
 go_enter Tryd.func151, Tryd.ntmps151
 go_wp2
 go_loopw [8] (fun i wr => ∃ k : Nat, k ≤ xs.length ∧ i = .int .i64 k ∧ (∀ y ∈ xs.take k, p y = false) ∧ Below w.heap.size w wr) (fun i _ => xs.length - (intOf i).toNat)
 case atStart => exact ⟨0, Nat.zero_le _, rfl, by simp, Below.refl _ _⟩
 case round =>
  obtain ⟨k, hk, rfl, hno, hb⟩ := hrel
  have HN := Lib.hid hno
  have HB := Lib.hid hb
  clear hno hb
  by_cases hlt : k < xs.length
  ·obtain ⟨x, hx⟩ := get_some hlt
   obtain ⟨b, o, rfl, _, hbs, hi, hc0⟩ := (hA.below HB.out).int hx
   have HX := Lib.hid hx
   have HM := Lib.hid (List.mem_of_getElem? hx)
   clear hx
   have hk0 : (0 : Int) ≤ (k : Int) := by omega
   have hk1 : (k : Int) < (xs.length : Int) := by omega
   go_wp2_with fail
   refine (HC.out x _ HM.out HB.out).mono ?_
   rintro e w1 ⟨rfl, hb1⟩
   have HB1 := Lib.hid hb1
   clear hb1
   cases hp : p x
   ·go_wp2
    go_roundw
    case rel => exact ⟨k + 1, by omega, by go_num, by
     rw [take_snoc HX.out]
     intro y hy
     rcases List.mem_append.1 hy with h | h
     ·exact HN.out y h
     ·simp at h; subst h; exact hp, bthen HB.out HB1.out HB.out.size⟩
    case measure => simp [intOf]; omega
   ·have E0 := Lib.hid (idxI_hit HX.out hp HN.out)
    clear hp
    go_wp2
    go_ret
    exact ⟨ret_int E0.out.symm, bthen HB.out HB1.out HB.out.size⟩
  ·have E0 := Lib.hid (show idxI p xs = -1 from idxI_none (by have h := HN.out; rwa [List.take_of_length_le (by omega)] at h))
   go_wp2
   go_ret
   exact ⟨ret_int E0.out.symm, HB.out⟩
theorem contInt_any (A : Option Addr) (c : Nat) (xs : List Int) (S : Nat → Prop) (w : World) (F : Nat) (caps : Array Value) (p : Int → Bool) (hm : xs.length ≤ 9223372036854775807) (hA : Els w S xs A) (hgo : IsGo F)
  (hcall : ∀ (x : Int) (W : World), x ∈ xs → Below w.heap.size w W → Calls Tryd.prog F (#[.int .i64 x] ++ caps) W fun e W' => e = .returned (.bool (p x)) ∧ Below W.heap.size W W') :
  Calls Tryd.prog 126 #[.slice A xs.length c, .func (.func F) #[] caps] w fun e w' => e = .returned (.bool (xs.any p)) ∧ Below w.heap.size w w' := by
 have HC := Lib.hid hcall
 have HG := Lib.hid hgo
 have HA := Lib.hid hA
 clear hcall hgo hA
 go_enter Tryd.func126, Tryd.ntmps126
 go_wp2_with fail
 refine (idxInt_any A c xs S w F caps p hm HA.out HG.out HC.out).mono ?_
 rintro e w1 ⟨rfl, hb1⟩
 go_wp2
 go_ret
 exact ⟨ret_bool (idxI_nonneg p xs), hb1⟩
theorem contInt_n (A : Option Addr) (n c : Nat) (xs : List Int) (hn : n = xs.length) (S : Nat → Prop) (w : World) (F : Nat) (caps : Array Value) (p : Int → Bool) (hm : xs.length ≤ 9223372036854775807) (hA : Els w S xs A) (hgo : IsGo F)
  (hcall : ∀ (x : Int) (W : World), x ∈ xs → Below w.heap.size w W → Calls Tryd.prog F (#[.int .i64 x] ++ caps) W fun e W' => e = .returned (.bool (p x)) ∧ Below W.heap.size W W') :
  Calls Tryd.prog 126 #[.slice A n c, .func (.func F) #[] caps] w fun e w' => e = .returned (.bool (xs.any p)) ∧ Below w.heap.size w w' := by
 subst hn; exact contInt_any A c xs S w F caps p hm hA hgo hcall
end Go.Proofs.YtjdojogjogenkaaDoor
/- Contract: gram.Word. -/
namespace Go.Proofs.YtjdojogjogenkaaDoor
open Go.RowKit
set_option linter.unusedVariables false
def wordBad (tm : Int) (x : Int) : Bool := decide (x < 0) || decide (tm ≤ x)
def wordE (tm : Int) (l : List Int) (most : Int) : Int := if most < (l.length : Int) then 2 else if l.any (wordBad tm) then 1 else 0
theorem word_go : IsGo 127 := isGo_of Tryd.func127 (by kernel_rfl) (by kernel_rfl)
theorem word1_any (G : Nat) (tm x : Int) (w : World) (hG : w.cell? ⟨G, 0, none⟩ = some (.int .i64 tm)) :
  Calls Tryd.prog 127 #[.int .i64 x, .pointer (some ⟨G, 0, none⟩)] w fun e w' => e = .returned (.bool (wordBad tm x)) ∧ Below w.heap.size w w' := by
 have hb := Lib.hid (Below.refl w.heap.size w)
 by_cases hx : x < 0
 ·have hE := Lib.hid (show wordBad tm x = true by simp [wordBad, hx])
  go_enter Tryd.func127, Tryd.ntmps127
  go_wp2
  go_ret
  exact ⟨ret_bool hE.out.symm, hb.out⟩
 ·have hx' : decide (x < 0) = false := by simp; omega
  have hE := Lib.hid (show wordBad tm x = decide (tm ≤ x) by simp [wordBad, hx])
  go_enter Tryd.func127, Tryd.ntmps127
  go_wp2
  go_ret
  exact ⟨ret_bool hE.out.symm, hb.out⟩
set_option maxRecDepth 100000 in
set_option maxHeartbeats 1000000 in
theorem word_any (tm a b most : Int) (v : Value) (l : List Int) (B : Option Addr) (d : Nat) (S : Nat → Prop) (w : World) (hn : l.length ≤ 9223372036854775807) (hB : Els w S l B) (hS : ∀ b, S b → b < w.heap.size) (hv : ∃ A n c, v = .slice A n c) :
  Calls Tryd.prog 96 #[.agg #[.int .i64 tm, .int .i64 a, .int .i64 b, v], .slice B l.length d, .int .i64 most] w fun e w' => e = .returned (.int .i64 (wordE tm l most)) ∧ Below w.heap.size w w' := by
 obtain ⟨A, n, c, rfl⟩ := hv
 have hba : Below w.heap.size w (w.alloc (.cells #[.int .i64 tm, .int .i64 a, .int .i64 b, .slice A n c] 24)) := (Below.refl _ _).alloc (Nat.le_refl _) _
 have HBa := Lib.hid hba
 have HG := Lib.hid (Blk'.new w 24 #[.int .i64 tm, .int .i64 a, .int .i64 b, .slice A n c])
 have HB := Lib.hid (hB.below hba)
 clear hba hB
 by_cases hm : most < (l.length : Int)
 ·have hE := Lib.hid (show wordE tm l most = 2 by unfold wordE; rw [if_pos hm])
  go_enter Tryd.func96, Tryd.ntmps96
  go_wp2
  go_ret
  exact ⟨ret_int hE.out.symm, HBa.out⟩
 ·have hm' : ¬ most < (l.length : Int) := hm
  have hmf : ∀ (fn : Fn) (first cap : Array Value) (w : World), (Instr.makeFunc fn first cap).run Tryd.prog w = .ok (.func fn first cap) w := fun _ _ _ _ => rfl
  have hE := Lib.hid (show wordE tm l most = if l.any (wordBad tm) then 1 else 0 by unfold wordE; rw [if_neg hm])
  go_enter Tryd.func96, Tryd.ntmps96
  go_wp2_with fail
  refine (contInt_any B d l S _ 127 #[.pointer (some ⟨w.heap.size, 0, none⟩)] (wordBad tm) hn HB.out word_go (fun x W _ hW => word1_any _ tm x W ((HG.out.below hW HG.out.lt).cell 0))).mono ?_
  rintro e w1 ⟨rfl, hb1⟩
  have HB1 := Lib.hid (bthen HBa.out hb1 HBa.out.size)
  clear hb1
  cases hany : l.any (wordBad tm)
  all_goals
   rw [hany] at hE
   go_wp2
   go_ret
   exact ⟨ret_int hE.out.symm, HB1.out⟩
end Go.Proofs.YtjdojogjogenkaaDoor
/- gram.T and gram.N and their kin: a symbol is returned. -/
namespace Go.Proofs.YtjdojogjogenkaaDoor
open Go.RowKit
set_option linter.unusedVariables false
theorem t_any (n : Int) (w : World) : Calls Tryd.prog 112 #[.int .i64 n] w fun e w' => e = .returned (.agg #[.bool true, .int .i64 n]) ∧ Below w.heap.size w w' := by
 go_enter Tryd.func112, Tryd.ntmps112
 go_wp2
 exact bodyPost_ret (v := .agg #[.bool true, .int .i64 n]) (by simp [results, Tryd.results112, go_sem]) rfl ⟨rfl, (Below.refl _ _).alloc (Nat.le_refl _) _⟩
theorem n_any (n : Int) (w : World) : Calls Tryd.prog 77 #[.int .i64 n] w fun e w' => e = .returned (.agg #[.bool false, .int .i64 n]) ∧ Below w.heap.size w w' := by
 go_enter Tryd.func77, Tryd.ntmps77
 go_wp2
 exact bodyPost_ret (v := .agg #[.bool false, .int .i64 n]) (by simp [results, Tryd.results77, go_sem]) rfl ⟨rfl, (Below.refl _ _).alloc (Nat.le_refl _) _⟩
end Go.Proofs.YtjdojogjogenkaaDoor
/- What the shelf's sort asks of a comparison: what lay stays, new blocks come behind it; gram.Order so. -/
namespace Go.Proofs.YtjdojogjogenkaaDoor
open Go.RowKit
set_option linter.unusedVariables false
def Gr (w w' : World) : Prop := ∃ (q : Nat) (os : Array Obj), w' = Go.Sort.grow (w.drewN q) os
theorem Gr.refl (w : World) : Gr w w := ⟨0, #[], by rw [Go.Sort.grow_empty]; rfl⟩
theorem Gr.trans {a b c : World} (h : Gr a b) (k : Gr b c) : Gr a c := by
 obtain ⟨q, os, rfl⟩ := h
 obtain ⟨p, ot, rfl⟩ := k
 refine ⟨q + p, os ++ ot, ?_⟩
 unfold Go.Sort.grow World.drewN
 simp only [Array.append_assoc, Nat.add_assoc]
theorem Gr.alloc {a b : World} (h : Gr a b) (o : Obj) : Gr a (b.alloc o) := h.trans ⟨0, #[o], by rw [Go.Sort.alloc_eq_grow]; rfl⟩
theorem Gr.drew {a b : World} (h : Gr a b) : Gr a b.drew := h.trans ⟨1, #[], by rw [Go.Sort.grow_empty]; rfl⟩
theorem Gr.undrew {a b : World} (h : Gr a.drew b) : Gr a b := ((Gr.refl a).drew).trans h
theorem Gr.below {a b : World} (h : Gr a b) : Below a.heap.size a b := by
 obtain ⟨q, os, rfl⟩ := h
 refine ⟨rfl, rfl, rfl, by simp [Go.Sort.grow, World.drewN], fun k hk => ?_⟩
 show (a.heap ++ os)[k]? = a.heap[k]?
 rw [Array.getElem?_append_left hk]
theorem order_Gr (t t' : Bool) (z z' : Int) (w : World) : Calls Tryd.prog 124 #[.agg #[.bool t, .int .i64 z], .agg #[.bool t', .int .i64 z']] w fun e w' => e = .returned (.int .i64 (symCmp ⟨t, z⟩ ⟨t', z'⟩)) ∧ Gr w w' := by
 cases t <;> cases t' <;> (
  go_enter Tryd.func124, Tryd.ntmps124
  go_wp2_with (go_at_call 134; refine (cmpInt_any _ _ _).mono ?_; rintro e w' ⟨rfl, rfl⟩)
  go_ret
  exact ⟨ret_int (by simp [symCmp]), ((Gr.refl _).alloc _).alloc _⟩)
end Go.Proofs.YtjdojogjogenkaaDoor
/- Contract: core.order; it is a strict weak order. -/
namespace Go.Proofs.YtjdojogjogenkaaDoor
open Go.RowKit
set_option linter.unusedVariables false
def keyCmp (a b : NKey) : Int := orI [cmpI (a.fr : Int) (b.fr : Int), cmpI (a.to : Int) (b.to : Int), symCmp a.sym b.sym]
theorem keyCmp_lt (a b : NKey) : keyCmp a b < 0 ↔ (a.fr < b.fr ∨ a.fr = b.fr ∧ (a.to < b.to ∨ a.to = b.to ∧ symCmp a.sym b.sym < 0)) := by
 unfold keyCmp
 simp only [orI, cmpI]
 repeat' split
 all_goals omega
theorem symCmp_lt (a b : Sym) : symCmp a b < 0 ↔ (a.term = true ∧ b.term = false ∨ a.term = b.term ∧ a.n < b.n) := by
 obtain ⟨t, n⟩ := a
 obtain ⟨t', n'⟩ := b
 cases t <;> cases t' <;> simp [symCmp, cmpI] <;> (repeat' split) <;> (try simp) <;> omega
set_option maxRecDepth 100000 in
set_option maxHeartbeats 4000000 in
theorem korder_Gr (a b : NKey) (w : World) :
  Calls Tryd.prog 130 #[.agg #[.bool a.sym.term, .int .i64 a.sym.n, .int .i64 (a.fr : Int), .int .i64 (a.to : Int)], .agg #[.bool b.sym.term, .int .i64 b.sym.n, .int .i64 (b.fr : Int), .int .i64 (b.to : Int)]] w fun e w' => e = .returned (.int .i64 (keyCmp a b)) ∧ Gr w w' := by
 obtain ⟨w1, hw1⟩ : ∃ w1 : World, w1 = (w.alloc (.cells #[.bool a.sym.term, .int .i64 a.sym.n, .int .i64 (a.fr : Int), .int .i64 (a.to : Int)] 194)).alloc (.cells #[.bool b.sym.term, .int .i64 b.sym.n, .int .i64 (b.fr : Int), .int .i64 (b.to : Int)] 194) := ⟨_, rfl⟩
 have HW1 := Lib.hid hw1
 have HA : Hid (Blk' w1 w.heap.size 194 #[.bool a.sym.term, .int .i64 a.sym.n, .int .i64 (a.fr : Int), .int .i64 (a.to : Int)]) := Lib.hid (by rw [hw1]; exact (Blk'.new _ _ _).alloc _)
 have HB : Hid (Blk' w1 (w.heap.size + 1) 194 #[.bool b.sym.term, .int .i64 b.sym.n, .int .i64 (b.fr : Int), .int .i64 (b.to : Int)]) := Lib.hid (by rw [hw1]; exact Blk'.new' _ _ _ (by simp))
 have HG1 : Hid (Gr w w1) := Lib.hid (by rw [hw1]; exact ((Gr.refl _).alloc _).alloc _)
 clear hw1
 go_enter Tryd.func130, Tryd.ntmps130
 go_upto_region 1 with (fail)
 rw [← HW1.out]
 have a0 : w1.cell? ⟨w.heap.size, 0, none⟩ = some (.bool a.sym.term) := HA.out.cell 0
 have a1 : w1.cell? ⟨w.heap.size, 1, none⟩ = some (.int .i64 a.sym.n) := HA.out.cell 1
 have a2 : w1.cell? ⟨w.heap.size, 2, none⟩ = some (.int .i64 (a.fr : Int)) := HA.out.cell 2
 have a3 : w1.cell? ⟨w.heap.size, 3, none⟩ = some (.int .i64 (a.to : Int)) := HA.out.cell 3
 have b0 : w1.cell? ⟨w.heap.size + 1, 0, none⟩ = some (.bool b.sym.term) := HB.out.cell 0
 have b1 : w1.cell? ⟨w.heap.size + 1, 1, none⟩ = some (.int .i64 b.sym.n) := HB.out.cell 1
 have b2 : w1.cell? ⟨w.heap.size + 1, 2, none⟩ = some (.int .i64 (b.fr : Int)) := HB.out.cell 2
 have b3 : w1.cell? ⟨w.heap.size + 1, 3, none⟩ = some (.int .i64 (b.to : Int)) := HB.out.cell 3
 have zA : w.heap.size < w1.heap.size := HA.out.lt
 have zB : w.heap.size + 1 < w1.heap.size := HB.out.lt
 refine wp_region_noPanic ?_
 refine wp_region_held_drew (S := (fun w' => w'.cell? ⟨w.heap.size, 0, none⟩ = some (.bool a.sym.term) ∧ w'.cell? ⟨w.heap.size, 1, none⟩ = some (.int .i64 a.sym.n) ∧ w'.cell? ⟨w.heap.size, 2, none⟩ = some (.int .i64 (a.fr : Int)) ∧ w'.cell? ⟨w.heap.size, 3, none⟩ = some (.int .i64 (a.to : Int)) ∧ w'.cell? ⟨w.heap.size + 1, 0, none⟩ = some (.bool b.sym.term) ∧ w'.cell? ⟨w.heap.size + 1, 1, none⟩ = some (.int .i64 b.sym.n) ∧ w'.cell? ⟨w.heap.size + 1, 2, none⟩ = some (.int .i64 (b.fr : Int)) ∧ w'.cell? ⟨w.heap.size + 1, 3, none⟩ = some (.int .i64 (b.to : Int)))) (by kernel_rfl) ?ha (fun hHeld => ?ba)
 case ha => ((try dsimp only); go_keep)
 refine tk 0 rfl (by intro w h; (try dsimp only at h); go_simp; try with_reducible rfl) ?_
 try simp only [Act.put, sA, sB, sC]
 refine tk 1 rfl (by intro w h; (try dsimp only at h); go_simp; try with_reducible rfl) ?_
 try simp only [Act.put, sA, sB, sC]
 refine tk 2 rfl (by intro w h; (try dsimp only at h); go_simp; try with_reducible rfl) ?_
 try simp only [Act.put, sA, sB, sC]
 refine tk 3 rfl (by intro w h; (try dsimp only at h); go_simp; try with_reducible rfl) ?_
 try simp only [Act.put, sA, sB, sC]
 refine tk 5 rfl (by intro w h; (try dsimp only at h); go_simp; try with_reducible rfl) ?_
 try simp only [Act.put, sA, sB, sC]
 refine tk 6 rfl (by intro w h; (try dsimp only at h); go_simp; try with_reducible rfl) ?_
 try simp only [Act.put, sA, sB, sC]
 refine tk 7 rfl (by intro w h; (try dsimp only at h); go_simp; try with_reducible rfl) ?_
 try simp only [Act.put, sA, sB, sC]
 refine tk 8 rfl (by intro w h; (try dsimp only at h); go_simp; try with_reducible rfl) ?_
 try simp only [Act.put, sA, sB, sC]
 refine tk 10 rfl (by intro w h; (try dsimp only at h); go_simp; try with_reducible rfl) ?_
 try simp only [Act.put, sA, sB, sC]
 refine tk 11 rfl (by intro w h; (try dsimp only at h); go_simp; try with_reducible rfl) ?_
 try simp only [Act.put, sA, sB, sC]
 refine tk 12 rfl (by intro w h; (try dsimp only at h); go_simp; try with_reducible rfl) ?_
 try simp only [Act.put, sA, sB, sC]
 refine tk 13 rfl (by intro w h; (try dsimp only at h); go_simp; try with_reducible rfl) ?_
 try simp only [Act.put, sA, sB, sC]
 refine take_call (i := 4) rfl (by kernel_rfl) (by rfl) (fun Kq hK => ?_)
 go_simp
 go_at_call 134
 refine (cmpInt_any _ _ w1.drew).mono ?_
 rintro e w' ⟨rfl, rfl⟩
 refine hK.out _ _ ?ha4 (fun hHeld => ?ra4)
 case ha4 => ((try dsimp only); go_keep)
 clear hK Kq
 try simp only [Act.put, sA, sB, sC]
 refine take_call (i := 9) rfl (by kernel_rfl) (by rfl) (fun Kq hK => ?_)
 go_simp
 go_at_call 134
 refine (cmpInt_any _ _ w1.drew).mono ?_
 rintro e w' ⟨rfl, rfl⟩
 refine hK.out _ _ ?ha9 (fun hHeld => ?ra9)
 case ha9 => ((try dsimp only); go_keep)
 clear hK Kq
 try simp only [Act.put, sA, sB, sC]
 refine take_call (i := 14) rfl (by kernel_rfl) (by rfl) (fun Kq hK => ?_)
 go_simp
 go_at_call 124
 refine (order_Gr a.sym.term b.sym.term a.sym.n b.sym.n w1.drew).mono ?_
 rintro e w2 ⟨rfl, hg2⟩
 have hb2 : Below w1.heap.size w1 w2 := (Gr.undrew hg2).below
 have HG2 : Hid (Gr w w2) := Lib.hid (HG1.out.trans (Gr.undrew hg2))
 have a0x : w2.cell? ⟨w.heap.size, 0, none⟩ = some (.bool a.sym.term) := (hb2.cell (p := ⟨w.heap.size, 0, none⟩) zA).trans a0
 have a1x : w2.cell? ⟨w.heap.size, 1, none⟩ = some (.int .i64 a.sym.n) := (hb2.cell (p := ⟨w.heap.size, 1, none⟩) zA).trans a1
 have a2x : w2.cell? ⟨w.heap.size, 2, none⟩ = some (.int .i64 (a.fr : Int)) := (hb2.cell (p := ⟨w.heap.size, 2, none⟩) zA).trans a2
 have a3x : w2.cell? ⟨w.heap.size, 3, none⟩ = some (.int .i64 (a.to : Int)) := (hb2.cell (p := ⟨w.heap.size, 3, none⟩) zA).trans a3
 have b0x : w2.cell? ⟨w.heap.size + 1, 0, none⟩ = some (.bool b.sym.term) := (hb2.cell (p := ⟨w.heap.size + 1, 0, none⟩) zB).trans b0
 have b1x : w2.cell? ⟨w.heap.size + 1, 1, none⟩ = some (.int .i64 b.sym.n) := (hb2.cell (p := ⟨w.heap.size + 1, 1, none⟩) zB).trans b1
 have b2x : w2.cell? ⟨w.heap.size + 1, 2, none⟩ = some (.int .i64 (b.fr : Int)) := (hb2.cell (p := ⟨w.heap.size + 1, 2, none⟩) zB).trans b2
 have b3x : w2.cell? ⟨w.heap.size + 1, 3, none⟩ = some (.int .i64 (b.to : Int)) := (hb2.cell (p := ⟨w.heap.size + 1, 3, none⟩) zB).trans b3
 have zAx : w.heap.size < w2.heap.size := Nat.lt_of_lt_of_le zA hb2.size
 have zBx : w.heap.size + 1 < w2.heap.size := Nat.lt_of_lt_of_le zB hb2.size
 have hsy : symCmp ⟨a.sym.term, a.sym.n⟩ ⟨b.sym.term, b.sym.n⟩ = symCmp a.sym b.sym := rfl
 rw [hsy]
 clear hg2 hb2 hsy
 refine hK.out _ _ ?ha14 (fun hHeld => ?ra14)
 case ha14 => ((try dsimp only); go_keep)
 clear hK Kq
 try simp only [Act.put, sA, sB, sC]
 refine take_call (i := 15) rfl (by kernel_rfl) (by rfl) (fun Kq hK => ?_)
 go_simp
 obtain ⟨g3, hg3⟩ : ∃ g, g = w2.heap.size := ⟨_, rfl⟩
 obtain ⟨w3, hw3⟩ : ∃ w3 : World, w3 = w2.alloc (.cells #[.int .i64 (cmpI (a.fr : Int) (b.fr : Int)), .int .i64 (cmpI (a.to : Int) (b.to : Int)), .int .i64 (symCmp a.sym b.sym)] 3) := ⟨_, rfl⟩
 rw [← hw3, ← hg3]
 have hb3 : Below w2.heap.size w2 w3 := by rw [hw3]; exact (Below.refl _ _).alloc (Nat.le_refl _) _
 have HG3 : Hid (Gr w w3) := Lib.hid (by rw [hw3]; exact HG2.out.alloc _)
 have HE3 : Hid (Els w3 (fun _ => True) [cmpI (a.fr : Int) (b.fr : Int), cmpI (a.to : Int) (b.to : Int), symCmp a.sym b.sym] (some ⟨g3, 0, none⟩)) := Lib.hid (els_icells (t := 3) (by rw [hw3, hg3]; exact Blk'.new _ _ _) (by intro v hv; simp at hv; rcases hv with rfl | rfl | rfl; exact cmpI_range _ _; exact cmpI_range _ _; exact symCmp_range _ _) trivial)
 have a0y : w3.cell? ⟨w.heap.size, 0, none⟩ = some (.bool a.sym.term) := (hb3.cell (p := ⟨w.heap.size, 0, none⟩) zAx).trans a0x
 have a1y : w3.cell? ⟨w.heap.size, 1, none⟩ = some (.int .i64 a.sym.n) := (hb3.cell (p := ⟨w.heap.size, 1, none⟩) zAx).trans a1x
 have a2y : w3.cell? ⟨w.heap.size, 2, none⟩ = some (.int .i64 (a.fr : Int)) := (hb3.cell (p := ⟨w.heap.size, 2, none⟩) zAx).trans a2x
 have a3y : w3.cell? ⟨w.heap.size, 3, none⟩ = some (.int .i64 (a.to : Int)) := (hb3.cell (p := ⟨w.heap.size, 3, none⟩) zAx).trans a3x
 have b0y : w3.cell? ⟨w.heap.size + 1, 0, none⟩ = some (.bool b.sym.term) := (hb3.cell (p := ⟨w.heap.size + 1, 0, none⟩) zBx).trans b0x
 have b1y : w3.cell? ⟨w.heap.size + 1, 1, none⟩ = some (.int .i64 b.sym.n) := (hb3.cell (p := ⟨w.heap.size + 1, 1, none⟩) zBx).trans b1x
 have b2y : w3.cell? ⟨w.heap.size + 1, 2, none⟩ = some (.int .i64 (b.fr : Int)) := (hb3.cell (p := ⟨w.heap.size + 1, 2, none⟩) zBx).trans b2x
 have b3y : w3.cell? ⟨w.heap.size + 1, 3, none⟩ = some (.int .i64 (b.to : Int)) := (hb3.cell (p := ⟨w.heap.size + 1, 3, none⟩) zBx).trans b3x
 have zAy : w.heap.size < w3.heap.size := Nat.lt_of_lt_of_le zAx hb3.size
 have zBy : w.heap.size + 1 < w3.heap.size := Nat.lt_of_lt_of_le zBx hb3.size
 clear hw3 hg3 hb3
 refine hK.out _ _ ?ha15 (fun hHeld => ?ra15)
 case ha15 => ((try dsimp only); go_keep)
 clear hK Kq
 try simp only [Act.put, sA, sB, sC]
 refine take_call (i := 16) rfl (by kernel_rfl) (by rfl) (fun Kq hK => ?_)
 go_simp
 go_at_call 133
 refine (or_any (some ⟨g3, 0, none⟩) 3 [cmpI (a.fr : Int) (b.fr : Int), cmpI (a.to : Int) (b.to : Int), symCmp a.sym b.sym] (fun _ => True) w3 (by simp) (by omega) HE3.out).mono ?_
 rintro e w' ⟨rfl, rfl⟩
 refine hK.out _ _ ?ha16 (fun hHeld => ?ra16)
 case ha16 => ((try dsimp only); go_keep)
 clear hK Kq
 try simp only [Act.put, sA, sB, sC]
 refine tk 17 rfl (by intro w h; (try dsimp only at h); go_simp; try with_reducible rfl) ?_
 try simp only [Act.put, sA, sB, sC]
 refine wpAnyH_done (by kernel_rfl) ?_ _
 refine NoPanic.normal ?_
 go_wp2
 go_ret
 exact ⟨rfl, HG3.out⟩
end Go.Proofs.YtjdojogjogenkaaDoor
/- Contract: slices.SortFunc at nodes of a forest with core.order, by the shelf's contract: the row holds the same nodes in some order. -/
namespace Go.Proofs.YtjdojogjogenkaaDoor
open Go.RowKit Go.Sort Go.Shelf
set_option linter.unusedVariables false
instance : Inhabited NKey := ⟨⟨⟨false, 0⟩, 0, 0⟩⟩
theorem kept_sortWorldK {α : Type} [Inhabited α] (enc : α → List Value) (k : Nat) (w : World) (blk off m : Nat) (dk : Array α) (os : Array Obj) : Kept (fun b => b = blk) w (sortWorldK enc k w blk off m dk os) := by
 unfold sortWorldK putRowK Go.Sort.grow Go.Sort.putRow Go.Sort.mapBlock Go.Sort.ahead
 refine ⟨rfl, rfl, rfl, by simp, fun k hk hx => ?_⟩
 show (w.heap.modify blk _ ++ os)[k]? = w.heap[k]?
 rw [Array.getElem?_append_left (by simpa using hk), Array.getElem?_modify, if_neg (fun e => hx e.symm)]
theorem swoK : Go.Sort.SWO (ltOf keyCmp) where
 irrefl x := by
  unfold ltOf
  rw [decide_eq_false_iff_not, keyCmp_lt, symCmp_lt]
  rintro (h | ⟨_, h | ⟨_, ⟨h1, h2⟩ | ⟨_, h⟩⟩⟩)
  ·omega
  ·omega
  ·rw [h1] at h2; cases h2
  ·omega
 trans x y z h1 h2 := by
  unfold ltOf at *
  rw [decide_eq_true_eq, keyCmp_lt, symCmp_lt] at *
  obtain ⟨⟨xt, xn⟩, xf, xo⟩ := x
  obtain ⟨⟨yt, yn⟩, yf, yo⟩ := y
  obtain ⟨⟨zt, zn⟩, zf, zo⟩ := z
  dsimp only at *
  cases xt <;> cases yt <;> cases zt <;> simp at h1 h2 ⊢ <;> omega
 ntrans x y z h1 h2 := by
  unfold ltOf at *
  rw [decide_eq_false_iff_not, keyCmp_lt, symCmp_lt] at *
  obtain ⟨⟨xt, xn⟩, xf, xo⟩ := x
  obtain ⟨⟨yt, yn⟩, yf, yo⟩ := y
  obtain ⟨⟨zt, zn⟩, zf, zo⟩ := z
  dsimp only at *
  cases xt <;> cases yt <;> cases zt <;> simp at h1 h2 ⊢ <;> omega
theorem korder_go : ∀ args w, (callFunc 130 args).run Tryd.prog w = .ok (.enter 130 args) w := enters_of Tryd.func130 (by kernel_rfl) rfl
theorem keyC_len (x : NKey) : (keyC x).length = 4 := rfl
theorem keyC_get (x : NKey) {j : Nat} (h : j < 4) : (keyC x)[j]? = some ((keyC x)[j]!) := by
 rw [List.getElem?_eq_getElem (by rw [keyC_len]; exact h), List.getElem!_eq_getElem?_getD, List.getElem?_eq_getElem (by rw [keyC_len]; exact h)]
 rfl
set_option maxRecDepth 100000 in
set_option maxHeartbeats 1000000 in
theorem sortK_any (w : World) (xs : List NKey) (g cap : Nat) (hR : ∀ (i : Nat) (x : NKey), xs[i]? = some x → At w g (i * 4) (keyC x)) (hfz : ∀ i, w.frozen? ⟨g, i, none⟩ = false) (hg : g < w.heap.size) (hn : xs.length < 1000000) :
  Calls Tryd.prog 129 #[.slice (some ⟨g, 0, none⟩) xs.length cap, .func (.func 130) #[] #[]] w fun e w' => e = .returned (.tuple #[]) ∧
   ∃ ys : List NKey, ys.Perm xs ∧ (∀ (i : Nat) (x : NKey), ys[i]? = some x → At w' g (i * 4) (keyC x)) ∧ Kept (fun b => b = g) w w' := by
 have hH : HoldsK keyC 4 w g 0 xs.toArray := by
  intro j hj
  rw [size_flatK] at hj
  have hj' : j / 4 < xs.length := by simp at hj; omega
  refine ⟨?_, hfz _⟩
  rw [get_flatK _ _ _ _ hj, Nat.zero_add]
  have hx : xs[j / 4]? = some xs[j / 4] := List.getElem?_eq_getElem hj'
  have h1 := hR (j / 4) _ hx (j % 4) _ (keyC_get _ (Nat.mod_lt _ (by omega)))
  rw [show j / 4 * 4 + j % 4 = j from by omega] at h1
  rw [h1, getElem!_pos xs.toArray (j / 4) (by simpa using hj')]
  simp
 have hcmp : CmpLays Tryd.prog 130 #[] keyC 4 keyCmp g 0 xs.toArray.size w := fun m os dk hs x y => (korder_Gr x y _).mono fun e w' h => h
 have h := AnyQ.slices_SortFunc sortK 4 Tryd.isAgg194 Tryd.sizeOf194 keyC keyC_len (fun x v hv => by simp [keyC] at hv; rcases hv with rfl | rfl | rfl | rfl <;> rfl) keyCmp swoK 130 #[] g 0 cap xs.toArray w korder_go hcmp hH hg (by simp; omega)
 have hsz : xs.toArray.size = xs.length := by simp
 rw [hsz] at h
 refine h.mono ?_
 rintro e w' ⟨rfl, d', n', os, ⟨hp1, _, hp2⟩, _, rfl⟩
 have hd's : d'.size = xs.length := by rw [hp1, hsz]
 have hperm : d'.toList.Perm xs := by
  have e1 : d'.extract 0 xs.length = d' := by rw [← hd's]; exact Array.extract_size
  have e2 : xs.toArray.extract 0 xs.length = xs.toArray := by rw [← hsz]; exact Array.extract_size
  rw [e1, e2] at hp2
  simpa using hp2
 have hH' := holdsK_sortWorldK_c (enc := keyC) (k := 4) (w := w) (blk := g) (off := 0) xs.toArray d' n' os hH hg hp1
 refine ⟨rfl, d'.toList, hperm, fun i x hx j u hu => ?_, kept_sortWorldK keyC 4 w g 0 n' d' os⟩
 have hi : i < d'.size := by have := (List.getElem?_eq_some_iff.1 hx).1; simpa using this
 have hj : j < 4 := by have := (List.getElem?_eq_some_iff.1 hu).1; rwa [keyC_len] at this
 have hlt : i * 4 + j < d'.size * 4 := by omega
 have h1 := (hH' (i * 4 + j) (by rw [size_flatK]; exact hlt)).1
 rw [Nat.zero_add, get_flatK _ _ _ _ hlt, show (i * 4 + j) / 4 = i from by omega, show (i * 4 + j) % 4 = j from by omega, getElem!_pos d' i hi] at h1
 have e1 : d'[i] = x := by
  rw [Array.getElem?_toList, Array.getElem?_eq_getElem hi] at hx
  injection hx
 rw [e1] at h1
 rw [h1]
 have h2 := keyC_get x hj
 rw [hu] at h2
 exact h2.symm
end Go.Proofs.YtjdojogjogenkaaDoor
/- Contract: slices.swapRangeCmpFunc at packs: a permutation. -/
namespace Go.Proofs.YtjdojogjogenkaaDoor
open Go.RowKit
set_option linter.unusedVariables false
set_option maxRecDepth 100000 in
set_option maxHeartbeats 4000000 in
theorem swapRange_any (w : World) (ps : List PkV) (g cap a b n : Nat) (f : Value) (hN : ps.length < 4611686018427387904) (hR : RowF w g ps) (ha : a + n ≤ ps.length) (hb : b + n ≤ ps.length) (hab : a + n ≤ b) :
  Calls Tryd.prog 198 #[.slice (some ⟨g, 0, none⟩) ps.length cap, .int .i64 a, .int .i64 b, .int .i64 n, f] w (RetPm w g ps) := by
 have HR := Lib.hid hR
 clear hR
 go_enter Tryd.func198, Tryd.ntmps198
 go_wp2_with fail
 go_loopw [10] (fun v wr => ∃ (i : Nat) (qs : List PkV), i ≤ n ∧ v = .int .i64 i ∧ RowF wr g qs ∧ qs.Perm ps ∧ Kept (fun b => b = g) w wr) (fun v _ => n - (intOf v).toNat)
 case atStart => exact ⟨0, ps, Nat.zero_le _, rfl, HR.out, List.Perm.refl _, Kept.refl _ _⟩
 case round =>
  obtain ⟨wo, hwo⟩ : ∃ wo : World, wo = wr := ⟨_, rfl⟩
  subst hwo
  obtain ⟨i, qs, hin, rfl, hRo, hPo, hKo⟩ := hrel
  have hql := hPo.length_eq
  by_cases hlt : i < n
  ·have hlt' : (i : Int) < (n : Int) := by omega
   obtain ⟨p, hp⟩ := get_some (show a + i < qs.length by omega)
   obtain ⟨q, hq⟩ := get_some (show b + i < qs.length by omega)
   have p0 := hRo.cell0 hp
   have p1 := hRo.cell1 hp
   have q0 := hRo.cell0 hq
   have q1 := hRo.cell1 hq
   have p0f := hRo.frozen ((a + i) * 2)
   have p1f := hRo.frozen ((a + i) * 2 + 1)
   have q0f := hRo.frozen ((b + i) * 2)
   have q1f := hRo.frozen ((b + i) * 2 + 1)
   have hw1 : IntKind.i64.wrap ((a : Int) + (i : Int)) = ((a + i : Nat) : Int) := by rw [← Int.natCast_add]; exact IntWalk.i64_in _ (by omega)
   have hw2 : IntKind.i64.wrap ((b : Int) + (i : Int)) = ((b + i : Nat) : Int) := by rw [← Int.natCast_add]; exact IntWalk.i64_in _ (by omega)
   have hw3 : IntKind.i64.wrap ((i : Int) + 1) = ((i + 1 : Nat) : Int) := IntWalk.i64_in _ (by omega)
   have h1 : (0 : Int) ≤ ((a + i : Nat) : Int) := by omega
   have h2 : ((a + i : Nat) : Int) < (ps.length : Int) := by omega
   have h3 : (0 : Int) ≤ ((b + i : Nat) : Int) := by omega
   have h4 : ((b + i : Nat) : Int) < (ps.length : Int) := by omega
   have hAB : a + i < b + i := by omega
   have HX := Lib.hid (show RowF ((((wo.setCell ⟨g, (a + i) * 2, none⟩ (.int .i64 q.r)).setCell ⟨g, (a + i) * 2 + 1, none⟩ (.slice q.a q.n q.c)).setCell ⟨g, (b + i) * 2, none⟩ (.int .i64 p.r)).setCell ⟨g, (b + i) * 2 + 1, none⟩ (.slice p.a p.n p.c)) g ((qs.set (a + i) q).set (b + i) p) ∧ ((qs.set (a + i) q).set (b + i) p).Perm ps ∧ Kept (fun b => b = g) w wo from
    ⟨(hRo.set_ _ q).set_ _ p, (fswap_perm hp hq).trans hPo, hKo⟩)
   generalize hA : a + i = A at *
   generalize hB : b + i = B at *
   have e1 : ¬ A = B := by omega
   have e2 : ¬ B = A := by omega
   have e3 : ¬ A * 2 = B * 2 := by omega
   have e4 : ¬ B * 2 = A * 2 := by omega
   have e5 : ¬ A * 2 = B * 2 + 1 := by omega
   have e6 : ¬ B * 2 = A * 2 + 1 := by omega
   have e7 : ¬ A * 2 + 1 = B * 2 := by omega
   have e8 : ¬ B * 2 + 1 = A * 2 := by omega
   clear hRo hPo hKo hp hq hAB
   go_wp2_with fail
   go_region
   go_wp2_with fail
   go_roundw
   case rel => exact ⟨i + 1, _, hlt, by go_num, HX.out.1.below ((Below.refl _ _).drew), HX.out.2.1, (pair_kept (pair_kept HX.out.2.2)).drew⟩
   case measure => simp [intOf]; omega
  ·have hlt' : ¬ (i : Int) < (n : Int) := by omega
   have HO := Lib.hid (And.intro hRo (And.intro hPo hKo))
   clear hRo hPo hKo
   go_wp2_with fail
   go_end0
   exact ⟨rfl, qs, HO.out⟩
end Go.Proofs.YtjdojogjogenkaaDoor
/- Contract: slices.rotateCmpFunc at packs: a permutation. -/
namespace Go.Proofs.YtjdojogjogenkaaDoor
open Go.RowKit
set_option linter.unusedVariables false
set_option maxRecDepth 100000 in
set_option maxHeartbeats 1000000 in
theorem rotate_any (w : World) (ps : List PkV) (g cap a m b : Nat) (f : Value) (hN : ps.length < 4611686018427387904) (hR : RowF w g ps) (ham : a < m) (hmb : m < b) (hb : b ≤ ps.length) :
  Calls Tryd.prog 194 #[.slice (some ⟨g, 0, none⟩) ps.length cap, .int .i64 a, .int .i64 m, .int .i64 b, f] w (RetPm w g ps) := by
 have HR := Lib.hid hR
 clear hR
 have hw0 : IntKind.i64.wrap ((m : Int) - (a : Int)) = ((m - a : Nat) : Int) := by rw [← Int.natCast_sub (by omega)]; exact IntWalk.i64_in _ (by omega)
 have hw1 : IntKind.i64.wrap ((b : Int) - (m : Int)) = ((b - m : Nat) : Int) := by rw [← Int.natCast_sub (by omega)]; exact IntWalk.i64_in _ (by omega)
 go_enter Tryd.func194, Tryd.ntmps194
 go_wp2_with fail
 go_loopw [10, 11] (fun v u wr => ∃ (i j : Nat) (qs : List PkV), 0 < i ∧ i ≤ m - a ∧ 0 < j ∧ j ≤ b - m ∧ v = .int .i64 i ∧ u = .int .i64 j ∧ RowF wr g qs ∧ qs.Perm ps ∧ Kept (fun b => b = g) w wr) (fun v u _ => (intOf v).toNat + (intOf u).toNat)
 case atStart => exact ⟨m - a, b - m, ps, by omega, Nat.le_refl _, by omega, Nat.le_refl _, rfl, rfl, HR.out, List.Perm.refl _, Kept.refl _ _⟩
 case round =>
  obtain ⟨wo, hwo⟩ : ∃ wo : World, wo = wr := ⟨_, rfl⟩
  subst hwo
  obtain ⟨i, j, qs, hi0, hi1, hj0, hj1, rfl, rfl, hRo, hPo, hKo⟩ := hrel
  have hql := hPo.length_eq
  have HO := Lib.hid (And.intro hRo (And.intro hPo hKo))
  have hwi : IntKind.i64.wrap ((m : Int) - (i : Int)) = ((m - i : Nat) : Int) := by rw [← Int.natCast_sub (by omega)]; exact IntWalk.i64_in _ (by omega)
  clear hRo hPo hKo
  by_cases hij : i = j
  ·subst hij
   have HC := Lib.hid (swapRange_any wo qs g cap (m - i) m i f (by omega) HO.out.1 (by omega) (by omega) (by omega))
   rw [hql] at HC
   go_wp2_with fail
   refine HC.out.mono ?_
   rintro e w1 ⟨rfl, rs, h1, h2, h3⟩
   have HE := Lib.hid (And.intro h1 (And.intro (h2.trans HO.out.2.1) (HO.out.2.2.trans h3)))
   clear h1 h2 h3
   go_wp2_with fail
   go_end0
   exact ⟨rfl, rs, HE.out⟩
  ·have hij' : ¬ (i : Int) = (j : Int) := by omega
   by_cases hgt : j < i
   ·have hgt' : (j : Int) < (i : Int) := by omega
    have hws : IntKind.i64.wrap ((i : Int) - (j : Int)) = ((i - j : Nat) : Int) := by rw [← Int.natCast_sub (by omega)]; exact IntWalk.i64_in _ (by omega)
    have HC := Lib.hid (swapRange_any wo qs g cap (m - i) m j f (by omega) HO.out.1 (by omega) (by omega) (by omega))
    rw [hql] at HC
    go_wp2_with fail
    refine HC.out.mono ?_
    rintro e w1 ⟨rfl, rs, h1, h2, h3⟩
    have HE := Lib.hid (And.intro h1 (And.intro (h2.trans HO.out.2.1) (HO.out.2.2.trans h3)))
    clear h1 h2 h3
    go_wp2_with fail
    go_roundw
    case rel => exact ⟨i - j, j, rs, by omega, by omega, hj0, hj1, by go_num, rfl, HE.out⟩
    case measure => simp [intOf]; omega
   ·have hgt' : ¬ (j : Int) < (i : Int) := by omega
    have hws : IntKind.i64.wrap ((j : Int) - (i : Int)) = ((j - i : Nat) : Int) := by rw [← Int.natCast_sub (by omega)]; exact IntWalk.i64_in _ (by omega)
    obtain ⟨M, hM⟩ : ∃ M : Nat, M = m + j := ⟨_, rfl⟩
    obtain ⟨T, hT⟩ : ∃ T : Nat, T = M - i := ⟨_, rfl⟩
    have hwt : IntKind.i64.wrap ((m : Int) + (j : Int)) = (M : Int) := by rw [← Int.natCast_add, hM]; exact IntWalk.i64_in _ (by omega)
    have hwu : IntKind.i64.wrap ((M : Int) - (i : Int)) = (T : Int) := by rw [← Int.natCast_sub (by omega), hT]; exact IntWalk.i64_in _ (by omega)
    have HC := Lib.hid (swapRange_any wo qs g cap (m - i) T i f (by omega) HO.out.1 (by omega) (by omega) (by omega))
    rw [hql] at HC
    obtain ⟨d, hd⟩ : ∃ d : Nat, d = j - i := ⟨_, rfl⟩
    rw [← hd] at hws
    have hd2 : 0 < d ∧ d ≤ b - m ∧ d < j := by omega
    clear hM hT hd
    go_wp2_with fail
    refine HC.out.mono ?_
    rintro e w1 ⟨rfl, rs, h1, h2, h3⟩
    have HE := Lib.hid (And.intro h1 (And.intro (h2.trans HO.out.2.1) (HO.out.2.2.trans h3)))
    clear h1 h2 h3
    go_wp2_with fail
    go_roundw
    case rel => exact ⟨i, d, rs, hi0, hi1, hd2.1, hd2.2.1, rfl, rfl, HE.out⟩
    case measure => simp [intOf]; omega
end Go.Proofs.YtjdojogjogenkaaDoor
/- Contract: slices.insertionSortCmpFunc at packs with core.Build$1: a permutation. -/
namespace Go.Proofs.YtjdojogjogenkaaDoor
open Go.RowKit
set_option linter.unusedVariables false
set_option maxRecDepth 100000 in
set_option maxHeartbeats 1000000 in
theorem insF_any (w : World) (ps : List PkV) (g cap a b : Nat) (hN : ps.length < 4611686018427387904) (hR : RowF w g ps) (hC : CmpOk w g ps) (ha : a ≤ b) (hb : b ≤ ps.length) :
  Calls Tryd.prog 180 #[.slice (some ⟨g, 0, none⟩) ps.length cap, .int .i64 a, .int .i64 b, .func (.func 132) #[] #[]] w (RetPm w g ps) := by
 have HR := Lib.hid hR
 have HCm := Lib.hid hC
 clear hR hC
 have hw0 : IntKind.i64.wrap ((a : Int) + 1) = ((a + 1 : Nat) : Int) := IntWalk.i64_in _ (by omega)
 go_enter Tryd.func180, Tryd.ntmps180
 go_wp2_with fail
 go_loopw [8] (fun v wr => ∃ (i : Nat) (qs : List PkV), a + 1 ≤ i ∧ i ≤ b + 1 ∧ v = .int .i64 i ∧ RowF wr g qs ∧ qs.Perm ps ∧ Kept (fun b => b = g) w wr) (fun v _ => b + 1 - (intOf v).toNat)
 case atStart => exact ⟨a + 1, ps, Nat.le_refl _, by omega, by go_num, HR.out, List.Perm.refl _, Kept.refl _ _⟩
 case round =>
  obtain ⟨wo, hwo⟩ : ∃ wo : World, wo = wr := ⟨_, rfl⟩
  subst hwo
  obtain ⟨i, qs, hi1, hib, rfl, hRo, hPo, hKo⟩ := hrel
  have HO := Lib.hid (And.intro hRo (And.intro hPo hKo))
  clear hRo hPo hKo
  by_cases hlt : i < b
  ·have hlt' : (i : Int) < (b : Int) := by omega
   have hwi : IntKind.i64.wrap ((i : Int) + 1) = ((i + 1 : Nat) : Int) := IntWalk.i64_in _ (by omega)
   go_wp2_with fail
   go_loopw [9] (fun v wr => ∃ (j : Nat) (zs : List PkV), a ≤ j ∧ j ≤ i ∧ v = .int .i64 j ∧ RowF wr g zs ∧ zs.Perm ps ∧ Kept (fun b => b = g) w wr) (fun v _ => (intOf v).toNat)
   case atStart => exact ⟨i, qs, by omega, Nat.le_refl _, rfl, HO.out⟩
   case round =>
    obtain ⟨wp, hwp⟩ : ∃ wp : World, wp = wr := ⟨_, rfl⟩
    subst hwp
    obtain ⟨j, zs, hja, hji, rfl, hRp, hPp, hKp⟩ := hrel
    have HP := Lib.hid (And.intro hRp (And.intro hPp hKp))
    have hzl : zs.length = ps.length := hPp.length_eq
    clear hPp hKp
    by_cases hj : j = a
    ·subst hj
     clear hRp
     go_wp2_with fail
     refine wp_region_noPanic ?_
     refine wp_region_held_drew (S := (fun w' => True)) (by kernel_rfl) ?ha (fun hHeld => ?ba)
     case ha => trivial
     refine take_run (i := 0) (v := ?va0) rfl (by kernel_rfl) (by kernel_rfl) (by kernel_rfl) (fun _ _ _ h => h) (by rfl) ?ya0 (by assumption) ?ra0
     case ya0 => (intro w hSw; (try dsimp only at hSw); go_simp; try with_reducible rfl)
     try simp only [Act.put, List.setIfInBounds_toArray, List.set_cons_zero, List.set_cons_succ]
     refine take_run (i := 1) (v := ?va1) rfl (by kernel_rfl) (by kernel_rfl) (by kernel_rfl) (fun _ _ _ h => h) (by rfl) ?ya1 (by assumption) ?ra1
     case ya1 => (intro w hSw; (try dsimp only at hSw); go_simp; try with_reducible rfl)
     try simp only [Act.put, List.setIfInBounds_toArray, List.set_cons_zero, List.set_cons_succ]
     refine take_run (i := 2) (v := .bool false) rfl (by kernel_rfl) (by kernel_rfl) (by kernel_rfl) (fun _ _ _ h => h) (by rfl) ?ya2 (by assumption) ?ra2
     case ya2 => (intro w hSw; (try dsimp only at hSw); try go_simp; first | done | omega | (simp []; done) | trace_state)
     try simp only [Act.put, List.setIfInBounds_toArray, List.set_cons_zero, List.set_cons_succ]
     refine take_run (i := 3) (v := ?va3) rfl (by kernel_rfl) (by kernel_rfl) (by kernel_rfl) (fun _ _ _ h => h) (by rfl) ?ya3 (by assumption) ?ra3
     case ya3 => (intro w hSw; (try dsimp only at hSw); go_simp; try with_reducible rfl)
     try simp only [Act.put, List.setIfInBounds_toArray, List.set_cons_zero, List.set_cons_succ]
     refine take_bar (i := 4) rfl (by kernel_rfl) (by kernel_rfl) (by kernel_rfl) (fun _ _ _ h => h) (by rfl) (by assumption) ?_
     try simp only [Act.put, List.setIfInBounds_toArray, List.set_cons_zero, List.set_cons_succ]
     refine take_bar (i := 5) rfl (by kernel_rfl) (by kernel_rfl) (by kernel_rfl) (fun _ _ _ h => h) (by rfl) (by assumption) ?_
     try simp only [Act.put, List.setIfInBounds_toArray, List.set_cons_zero, List.set_cons_succ]
     refine take_bar (i := 6) rfl (by kernel_rfl) (by kernel_rfl) (by kernel_rfl) (fun _ _ _ h => h) (by rfl) (by assumption) ?_
     try simp only [Act.put, List.setIfInBounds_toArray, List.set_cons_zero, List.set_cons_succ]
     refine take_bar (i := 7) rfl (by kernel_rfl) (by kernel_rfl) (by kernel_rfl) (fun _ _ _ h => h) (by rfl) (by assumption) ?_
     try simp only [Act.put, List.setIfInBounds_toArray, List.set_cons_zero, List.set_cons_succ]
     refine take_bar (i := 8) rfl (by kernel_rfl) (by kernel_rfl) (by kernel_rfl) (fun _ _ _ h => h) (by rfl) (by assumption) ?_
     try simp only [Act.put, List.setIfInBounds_toArray, List.set_cons_zero, List.set_cons_succ]
     refine take_bar (i := 9) rfl (by kernel_rfl) (by kernel_rfl) (by kernel_rfl) (fun _ _ _ h => h) (by rfl) (by assumption) ?_
     try simp only [Act.put, List.setIfInBounds_toArray, List.set_cons_zero, List.set_cons_succ]
     refine take_bar (i := 10) rfl (by kernel_rfl) (by kernel_rfl) (by kernel_rfl) (fun _ _ _ h => h) (by rfl) (by assumption) ?_
     try simp only [Act.put, List.setIfInBounds_toArray, List.set_cons_zero, List.set_cons_succ]
     refine take_bar (i := 11) rfl (by kernel_rfl) (by kernel_rfl) (by kernel_rfl) (fun _ _ _ h => h) (by rfl) (by assumption) ?_
     try simp only [Act.put, List.setIfInBounds_toArray, List.set_cons_zero, List.set_cons_succ]
     refine take_bar (i := 12) rfl (by kernel_rfl) (by kernel_rfl) (by kernel_rfl) (fun _ _ _ h => h) (by rfl) (by assumption) ?_
     try simp only [Act.put, List.setIfInBounds_toArray, List.set_cons_zero, List.set_cons_succ]
     refine take_bar (i := 13) rfl (by kernel_rfl) (by kernel_rfl) (by kernel_rfl) (fun _ _ _ h => h) (by rfl) (by assumption) ?_
     try simp only [Act.put, List.setIfInBounds_toArray, List.set_cons_zero, List.set_cons_succ]
     refine take_bar (i := 14) rfl (by kernel_rfl) (by kernel_rfl) (by kernel_rfl) (fun _ _ _ h => h) (by rfl) (by assumption) ?_
     try simp only [Act.put, List.setIfInBounds_toArray, List.set_cons_zero, List.set_cons_succ]
     refine take_bar (i := 15) rfl (by kernel_rfl) (by kernel_rfl) (by kernel_rfl) (fun _ _ _ h => h) (by rfl) (by assumption) ?_
     try simp only [Act.put, List.setIfInBounds_toArray, List.set_cons_zero, List.set_cons_succ]
     refine take_run (i := 16) (v := ?va16) rfl (by kernel_rfl) (by kernel_rfl) (by kernel_rfl) (fun _ _ _ h => h) (by rfl) ?ya16 (by assumption) ?ra16
     case ya16 => (intro w hSw; (try dsimp only at hSw); go_simp; try with_reducible rfl)
     try simp only [Act.put, List.setIfInBounds_toArray, List.set_cons_zero, List.set_cons_succ]
     refine wpAnyH_done (by kernel_rfl) ?_ _
     refine NoPanic.normal ?_
     go_wp2_with fail
     go_roundw
     case rel => exact ⟨i + 1, zs, by omega, by omega, by go_num, HP.out.1.below ((Below.refl _ _).drew), HP.out.2.1, HP.out.2.2.drew⟩
     case measure => simp [intOf]; omega
    ·obtain ⟨p, hp⟩ := get_some (show j < zs.length by omega)
     obtain ⟨l, hl⟩ : ∃ l : Nat, l = j - 1 := ⟨_, rfl⟩
     obtain ⟨q, hq⟩ := get_some (show l < zs.length by omega)
     have p0 := hRp.cell0 hp
     have p1 := hRp.cell1 hp
     have q0 := hRp.cell0 hq
     have q1 := hRp.cell1 hq
     have hjw : IntKind.i64.wrap ((j : Int) - 1) = (l : Int) := by rw [show (j : Int) - 1 = (l : Int) by omega]; exact IntWalk.i64_in _ (by omega)
     have hj0 : (0 : Int) ≤ (j : Int) := by omega
     have hj1 : (j : Int) < (ps.length : Int) := by omega
     have hj2 : (0 : Int) ≤ (l : Int) := by omega
     have hj3 : (l : Int) < (ps.length : Int) := by omega
     have hj5 : (a : Int) < (j : Int) := by omega
     have hd1 : decide ((a : Int) < (j : Int)) = true := by simp; omega
     have zg : g < wp.heap.size := hRp.lt
     have HC := Lib.hid (HCm.out p (HP.out.2.1.subset (List.mem_of_getElem? hp)) q (HP.out.2.1.subset (List.mem_of_getElem? hq)) wp.drew HP.out.2.2.drew)
     have HS := Lib.hid (show ∀ W : World, RowF W g zs → RowF ((((W.setCell ⟨g, j * 2, none⟩ (.int .i64 q.r)).setCell ⟨g, j * 2 + 1, none⟩ (.slice q.a q.n q.c)).setCell ⟨g, l * 2, none⟩ (.int .i64 p.r)).setCell ⟨g, l * 2 + 1, none⟩ (.slice p.a p.n p.c)) g ((zs.set j q).set l p) ∧ ((zs.set j q).set l p).Perm ps from
      fun W h => ⟨(h.set_ _ q).set_ _ p, (fswap_perm hp hq).trans HP.out.2.1⟩)
     have e1 : ¬ j = l := by omega
     have e2 : ¬ l = j := by omega
     have e3 : ¬ j * 2 = l * 2 := by omega
     have e4 : ¬ l * 2 = j * 2 := by omega
     have e5 : ¬ j * 2 = l * 2 + 1 := by omega
     have e6 : ¬ l * 2 = j * 2 + 1 := by omega
     have e7 : ¬ j * 2 + 1 = l * 2 := by omega
     have e8 : ¬ l * 2 + 1 = j * 2 := by omega
     have hlj : a ≤ l ∧ l ≤ i ∧ l < j := by omega
     clear hp hq hRp hl
     go_wp2_with fail
     refine wp_region_noPanic ?_
     refine wp_region_held_drew (S := (fun w' => w'.cell? ⟨g, j * 2, none⟩ = some (.int .i64 p.r) ∧ w'.cell? ⟨g, j * 2 + 1, none⟩ = some (.slice p.a p.n p.c) ∧ w'.cell? ⟨g, l * 2, none⟩ = some (.int .i64 q.r) ∧ w'.cell? ⟨g, l * 2 + 1, none⟩ = some (.slice q.a q.n q.c))) (by kernel_rfl) ?hb (fun hHeld => ?bb)
     case hb => ((try dsimp only); go_keep)
     refine take_run (i := 0) (v := ?vb0) rfl (by kernel_rfl) (by kernel_rfl) (by kernel_rfl) (fun _ _ _ h => h) (by rfl) ?yb0 (by assumption) ?rb0
     case yb0 => (intro w hSw; (try dsimp only at hSw); go_simp; try with_reducible rfl)
     try simp only [Act.put, List.setIfInBounds_toArray, List.set_cons_zero, List.set_cons_succ]
     refine take_run (i := 1) (v := ?vb1) rfl (by kernel_rfl) (by kernel_rfl) (by kernel_rfl) (fun _ _ _ h => h) (by rfl) ?yb1 (by assumption) ?rb1
     case yb1 => (intro w hSw; (try dsimp only at hSw); go_simp; try with_reducible rfl)
     try simp only [Act.put, List.setIfInBounds_toArray, List.set_cons_zero, List.set_cons_succ]
     refine take_run (i := 2) (v := .bool true) rfl (by kernel_rfl) (by kernel_rfl) (by kernel_rfl) (fun _ _ _ h => h) (by rfl) ?yb2 (by assumption) ?rb2
     case yb2 => (intro w hSw; (try dsimp only at hSw); try go_simp; first | done | omega | (simp [hd1]; done) | trace_state)
     try simp only [Act.put, List.setIfInBounds_toArray, List.set_cons_zero, List.set_cons_succ]
     refine take_run (i := 3) (v := ?vb3) rfl (by kernel_rfl) (by kernel_rfl) (by kernel_rfl) (fun _ _ _ h => h) (by rfl) ?yb3 (by assumption) ?rb3
     case yb3 => (intro w hSw; (try dsimp only at hSw); go_simp; try with_reducible rfl)
     try simp only [Act.put, List.setIfInBounds_toArray, List.set_cons_zero, List.set_cons_succ]
     refine take_run (i := 4) (v := ?vb4) rfl (by kernel_rfl) (by kernel_rfl) (by kernel_rfl) (fun _ _ _ h => h) (by rfl) ?yb4 (by assumption) ?rb4
     case yb4 => (intro w hSw; (try dsimp only at hSw); go_simp; try with_reducible rfl)
     try simp only [Act.put, List.setIfInBounds_toArray, List.set_cons_zero, List.set_cons_succ]
     refine take_run (i := 5) (v := ?vb5) rfl (by kernel_rfl) (by kernel_rfl) (by kernel_rfl) (fun _ _ _ h => h) (by rfl) ?yb5 (by assumption) ?rb5
     case yb5 => (intro w hSw; (try dsimp only at hSw); go_simp; try with_reducible rfl)
     try simp only [Act.put, List.setIfInBounds_toArray, List.set_cons_zero, List.set_cons_succ]
     refine take_run (i := 6) (v := ?vb6) rfl (by kernel_rfl) (by kernel_rfl) (by kernel_rfl) (fun _ _ _ h => h) (by rfl) ?yb6 (by assumption) ?rb6
     case yb6 => (intro w hSw; (try dsimp only at hSw); go_simp; try with_reducible rfl)
     try simp only [Act.put, List.setIfInBounds_toArray, List.set_cons_zero, List.set_cons_succ]
     refine take_run (i := 7) (v := ?vb7) rfl (by kernel_rfl) (by kernel_rfl) (by kernel_rfl) (fun _ _ _ h => h) (by rfl) ?yb7 (by assumption) ?rb7
     case yb7 => (intro w hSw; (try dsimp only at hSw); go_simp; try with_reducible rfl)
     try simp only [Act.put, List.setIfInBounds_toArray, List.set_cons_zero, List.set_cons_succ]
     refine take_run (i := 8) (v := ?vb8) rfl (by kernel_rfl) (by kernel_rfl) (by kernel_rfl) (fun _ _ _ h => h) (by rfl) ?yb8 (by assumption) ?rb8
     case yb8 => (intro w hSw; (try dsimp only at hSw); go_simp; try with_reducible rfl)
     try simp only [Act.put, List.setIfInBounds_toArray, List.set_cons_zero, List.set_cons_succ]
     refine take_run (i := 9) (v := ?vb9) rfl (by kernel_rfl) (by kernel_rfl) (by kernel_rfl) (fun _ _ _ h => h) (by rfl) ?yb9 (by assumption) ?rb9
     case yb9 => (intro w hSw; (try dsimp only at hSw); go_simp; try with_reducible rfl)
     try simp only [Act.put, List.setIfInBounds_toArray, List.set_cons_zero, List.set_cons_succ]
     refine take_run (i := 10) (v := ?vb10) rfl (by kernel_rfl) (by kernel_rfl) (by kernel_rfl) (fun _ _ _ h => h) (by rfl) ?yb10 (by assumption) ?rb10
     case yb10 => (intro w hSw; (try dsimp only at hSw); go_simp; try with_reducible rfl)
     try simp only [Act.put, List.setIfInBounds_toArray, List.set_cons_zero, List.set_cons_succ]
     refine take_run (i := 11) (v := ?vb11) rfl (by kernel_rfl) (by kernel_rfl) (by kernel_rfl) (fun _ _ _ h => h) (by rfl) ?yb11 (by assumption) ?rb11
     case yb11 => (intro w hSw; (try dsimp only at hSw); go_simp; try with_reducible rfl)
     try simp only [Act.put, List.setIfInBounds_toArray, List.set_cons_zero, List.set_cons_succ]
     refine take_run (i := 12) (v := ?vb12) rfl (by kernel_rfl) (by kernel_rfl) (by kernel_rfl) (fun _ _ _ h => h) (by rfl) ?yb12 (by assumption) ?rb12
     case yb12 => (intro w hSw; (try dsimp only at hSw); go_simp; try with_reducible rfl)
     try simp only [Act.put, List.setIfInBounds_toArray, List.set_cons_zero, List.set_cons_succ]
     refine take_run (i := 13) (v := ?vb13) rfl (by kernel_rfl) (by kernel_rfl) (by kernel_rfl) (fun _ _ _ h => h) (by rfl) ?yb13 (by assumption) ?rb13
     case yb13 => (intro w hSw; (try dsimp only at hSw); go_simp; try with_reducible rfl)
     try simp only [Act.put, List.setIfInBounds_toArray, List.set_cons_zero, List.set_cons_succ]
     refine take_call (i := 14) rfl (by kernel_rfl) (by rfl) (fun Kq hK => ?_)
     go_simp
     go_at_call 132
     refine HC.out.mono ?_
     rintro e w1 ⟨⟨k, rfl⟩, hb1⟩
     have HB1 := Lib.hid (bundrew hb1)
     have n0 := (HB1.out.cell (p := ⟨g, j * 2, none⟩) zg).trans p0
     have n1 := (HB1.out.cell (p := ⟨g, j * 2 + 1, none⟩) zg).trans p1
     have n2 := (HB1.out.cell (p := ⟨g, l * 2, none⟩) zg).trans q0
     have n3 := (HB1.out.cell (p := ⟨g, l * 2 + 1, none⟩) zg).trans q1
     clear hb1
     refine hK.out _ _ ?hb14 (fun hHeld => ?rb14)
     case hb14 => ((try dsimp only); go_keep)
     clear hK Kq
     try simp only [Act.put, List.setIfInBounds_toArray, List.set_cons_zero, List.set_cons_succ]
     refine take_run (i := 15) (v := ?vb15) rfl (by kernel_rfl) (by kernel_rfl) (by kernel_rfl) (fun _ _ _ h => h) (by rfl) ?yb15 (by assumption) ?rb15
     case yb15 => (intro w hSw; (try dsimp only at hSw); go_simp; try with_reducible rfl)
     try simp only [Act.put, List.setIfInBounds_toArray, List.set_cons_zero, List.set_cons_succ]
     refine take_run (i := 16) (v := ?vb16) rfl (by kernel_rfl) (by kernel_rfl) (by kernel_rfl) (fun _ _ _ h => h) (by rfl) ?yb16 (by assumption) ?rb16
     case yb16 => (intro w hSw; (try dsimp only at hSw); go_simp; try with_reducible rfl)
     try simp only [Act.put, List.setIfInBounds_toArray, List.set_cons_zero, List.set_cons_succ]
     refine wpAnyH_done (by kernel_rfl) ?_ _
     refine NoPanic.normal ?_
     have hR1 := HP.out.1.below HB1.out
     have HR1 := Lib.hid hR1
     by_cases hc1 : k < 0
     ·have p0f := hR1.frozen (j * 2)
      have p1f := hR1.frozen (j * 2 + 1)
      have q0f := hR1.frozen (l * 2)
      have q1f := hR1.frozen (l * 2 + 1)
      clear hR1 p0 p1 q0 q1
      go_wp2_with fail
      go_region
      go_wp2_with fail
      go_roundw
      case rel => exact ⟨l, _, hlj.1, hlj.2.1, rfl, (HS.out _ HR1.out).1.below ((Below.refl _ _).drew), (HS.out _ HR1.out).2, (pair_kept (pair_kept (HP.out.2.2.below HB1.out))).drew⟩
      case measure => simp [intOf]; omega
     ·clear hR1 p0 p1 q0 q1
      go_wp2_with fail
      go_roundw
      case rel => exact ⟨i + 1, zs, by omega, by omega, by go_num, HR1.out, HP.out.2.1, HP.out.2.2.below HB1.out⟩
      case measure => simp [intOf]; omega
  ·have hlt' : ¬ (i : Int) < (b : Int) := by omega
   go_wp2_with fail
   go_end0
   exact ⟨rfl, qs, HO.out⟩
end Go.Proofs.YtjdojogjogenkaaDoor
/- Contract: slices.Compare at ints. -/
namespace Go.Proofs.YtjdojogjogenkaaDoor
open Go.RowKit
set_option linter.unusedVariables false
theorem cmpL_drop {xs ys : List Int} {k : Nat} {x y : Int} (hx : xs[k]? = some x) (hy : ys[k]? = some y) : cmpL (xs.drop k) (ys.drop k) = if cmpI x y = 0 then cmpL (xs.drop (k + 1)) (ys.drop (k + 1)) else cmpI x y := by
 rw [drop_cons hx, drop_cons hy, cmpL]
 unfold cmpI
 by_cases h1 : x < y
 ·simp [h1]
 ·by_cases h2 : y < x
  ·simp [h1, h2]
  ·simp [h1, h2]
set_option maxRecDepth 100000 in
set_option maxHeartbeats 2000000 in
theorem compareInts_any (xs ys : List Int) (A B : Option Addr) (c d : Nat) (S S' : Nat → Prop) (w : World) (hm : xs.length ≤ 1000000) (hm' : ys.length ≤ 1000000) (hA : Els w S xs A) (hB : Els w S' ys B) :
  Calls Tryd.prog 135 #[.slice A xs.length c, .slice B ys.length d] w fun e w' => e = .returned (.int .i64 (cmpL xs ys)) ∧ w = w' := by
 have HA := Lib.hid hA
 have HB := Lib.hid hB
 have hm1 : (xs.length : Int) ≤ 1000000 := by omega
 have hm2 : (ys.length : Int) ≤ 1000000 := by omega
 clear hA hB
 go_enter Tryd.func135, Tryd.ntmps135
 go_wp2
 go_loop [11] (fun i => ∃ k : Nat, k ≤ xs.length ∧ k ≤ ys.length ∧ i = .int .i64 k ∧ cmpL xs ys = cmpL (xs.drop k) (ys.drop k)) (fun i => xs.length - (intOf i).toNat)
 case atStart => exact ⟨0, Nat.zero_le _, Nat.zero_le _, rfl, rfl⟩
 case round =>
  obtain ⟨k, hk, hk2, rfl, hcmp⟩ := hrel
  have HC := Lib.hid hcmp
  clear hcmp
  have hk0 : (0 : Int) ≤ (k : Int) := by omega
  by_cases hlt : k < xs.length
  ·obtain ⟨x, hx⟩ := get_some hlt
   obtain ⟨bx, ox, rfl, _, _, _, xc⟩ := HA.out.int hx
   have hl1 : (k : Int) < (xs.length : Int) := by omega
   by_cases hlt2 : k < ys.length
   ·obtain ⟨y, hy⟩ := get_some hlt2
    obtain ⟨by_, oy, rfl, _, _, _, yc⟩ := HB.out.int hy
    have hl2 : (k : Int) < (ys.length : Int) := by omega
    have hl3 : ¬ (ys.length : Int) ≤ (k : Int) := by omega
    have HD := Lib.hid (cmpL_drop hx hy)
    clear hx hy
    by_cases hz : cmpI x y = 0
    ·have hzb : (cmpI x y != 0) = false := by simp [hz]
     have HN := Lib.hid (show cmpL xs ys = cmpL (xs.drop (k + 1)) (ys.drop (k + 1)) by rw [HC.out, HD.out, if_pos hz])
     clear hz
     go_wp2_with fail
     refine (cmpInt_any x y _).mono ?_
     rintro e w1 ⟨rfl, rfl⟩
     go_wp2
     go_round
     case rel => exact ⟨k + 1, hlt, hlt2, by go_num, HN.out⟩
     case measure => simp [intOf]; omega
    ·have hzb : (cmpI x y != 0) = true := by simp [hz]
     have HN := Lib.hid (show cmpL xs ys = cmpI x y by rw [HC.out, HD.out, if_neg hz])
     clear hz
     go_wp2_with fail
     refine (cmpInt_any x y _).mono ?_
     rintro e w1 ⟨rfl, rfl⟩
     go_wp2
     go_ret
     exact ⟨ret_int HN.out.symm, rfl⟩
   ·have hl3 : (ys.length : Int) ≤ (k : Int) := by omega
    have HN := Lib.hid (show cmpL xs ys = 1 by rw [HC.out, drop_cons hx, show ys.drop k = [] from List.drop_eq_nil_of_le (by omega)]; rfl)
    clear hx
    go_wp2
    go_ret
    exact ⟨ret_int HN.out.symm, rfl⟩
  ·have hl1 : ¬ (k : Int) < (xs.length : Int) := by omega
   by_cases hlt2 : xs.length < ys.length
   ·obtain ⟨y, hy⟩ := get_some (show k < ys.length by omega)
    have hl2 : (xs.length : Int) < (ys.length : Int) := by omega
    have HN := Lib.hid (show cmpL xs ys = -1 by rw [HC.out, drop_cons hy, show xs.drop k = [] from List.drop_eq_nil_of_le (by omega)]; rfl)
    clear hy
    go_wp2
    go_ret
    exact ⟨ret_int HN.out.symm, rfl⟩
   ·have hl2 : ¬ (xs.length : Int) < (ys.length : Int) := by omega
    have HN := Lib.hid (show cmpL xs ys = 0 by rw [HC.out, show xs.drop k = [] from List.drop_eq_nil_of_le (by omega), show ys.drop k = [] from List.drop_eq_nil_of_le (by omega)]; rfl)
    go_wp2
    go_ret
    exact ⟨ret_int HN.out.symm, rfl⟩
end Go.Proofs.YtjdojogjogenkaaDoor
/- Contract: core.Build$1: it compares two packs; which number it answers is not told. -/
namespace Go.Proofs.YtjdojogjogenkaaDoor
open Go.RowKit
set_option linter.unusedVariables false
theorem cmpL_rg : ∀ (a b : List Int), I64 (cmpL a b)
 | [], [] => by unfold cmpL I64; omega
 | [], _ :: _ => by unfold cmpL I64; omega
 | _ :: _, [] => by unfold cmpL I64; omega
 | x :: xs, y :: ys => by
  have ih := cmpL_rg xs ys
  unfold cmpL
  split
  ·unfold I64; omega
  ·split
   ·unfold I64; omega
   ·exact ih
set_option maxRecDepth 100000 in
set_option maxHeartbeats 4000000 in
theorem build1_any (p q : PkV) (l l' : List Int) (S : Nat → Prop) (w : World) (hp : p.n = l.length ∧ l.length ≤ 1000000 ∧ Els w S l p.a) (hq : q.n = l'.length ∧ l'.length ≤ 1000000 ∧ Els w S l' q.a) (hS : ∀ b, S b → b < w.heap.size) :
  Calls Tryd.prog 132 #[p.v, q.v] w fun e w' => (∃ k : Int, e = .returned (.int .i64 k)) ∧ Below w.heap.size w w' := by
 obtain ⟨pr, pa, pn, pc⟩ := p
 obtain ⟨qr, qa, qn, qc⟩ := q
 dsimp only at hp hq
 obtain ⟨rfl, hp1, hp2⟩ := hp
 obtain ⟨rfl, hq1, hq2⟩ := hq
 unfold PkV.v
 dsimp only
 obtain ⟨w1, hw1⟩ : ∃ w1 : World, w1 = (w.alloc (.cells #[.int .i64 pr, .slice pa l.length pc] 155)).alloc (.cells #[.int .i64 qr, .slice qa l'.length qc] 155) := ⟨_, rfl⟩
 have HW1 := Lib.hid hw1
 have HA : Hid (Blk' w1 w.heap.size 155 #[.int .i64 pr, .slice pa l.length pc]) := Lib.hid (by rw [hw1]; exact (Blk'.new _ _ _).alloc _)
 have HB : Hid (Blk' w1 (w.heap.size + 1) 155 #[.int .i64 qr, .slice qa l'.length qc]) := Lib.hid (by rw [hw1]; exact Blk'.new' _ _ _ (by simp))
 have hb1 : Below w.heap.size w w1 := by rw [hw1]; exact ((Below.refl _ _).alloc (Nat.le_refl _) _).alloc (by simp) _
 have HG1 : Hid (Below w.heap.size w w1) := Lib.hid hb1
 have HP : Hid (Els w1 S l pa) := Lib.hid (hp2.belowB hb1 hS)
 have HQ : Hid (Els w1 S l' qa) := Lib.hid (hq2.belowB hb1 hS)
 clear hw1 hp2 hq2 hb1 hS
 go_enter Tryd.func132, Tryd.ntmps132
 go_upto_region 1 with (fail)
 rw [← HW1.out]
 have a0 : w1.cell? ⟨w.heap.size, 0, none⟩ = some (.int .i64 pr) := HA.out.cell 0
 have a1 : w1.cell? ⟨w.heap.size, 1, none⟩ = some (.slice pa l.length pc) := HA.out.cell 1
 have b0 : w1.cell? ⟨w.heap.size + 1, 0, none⟩ = some (.int .i64 qr) := HB.out.cell 0
 have b1 : w1.cell? ⟨w.heap.size + 1, 1, none⟩ = some (.slice qa l'.length qc) := HB.out.cell 1
 have zA : w.heap.size < w1.heap.size := HA.out.lt
 have zB : w.heap.size + 1 < w1.heap.size := HB.out.lt
 refine wp_region_noPanic ?_
 refine wp_region_held_drew (S := (fun w' => w'.cell? ⟨w.heap.size, 0, none⟩ = some (.int .i64 pr) ∧ w'.cell? ⟨w.heap.size, 1, none⟩ = some (.slice pa l.length pc) ∧ w'.cell? ⟨w.heap.size + 1, 0, none⟩ = some (.int .i64 qr) ∧ w'.cell? ⟨w.heap.size + 1, 1, none⟩ = some (.slice qa l'.length qc))) (by kernel_rfl) ?ha (fun hHeld => ?ba)
 case ha => ((try dsimp only); go_keep)
 refine tk 0 rfl (by intro w h; (try dsimp only at h); go_simp; try with_reducible rfl) ?_
 try simp only [Act.put, sA, sB, sC]
 refine tk 1 rfl (by intro w h; (try dsimp only at h); go_simp; try with_reducible rfl) ?_
 try simp only [Act.put, sA, sB, sC]
 refine tk 2 rfl (by intro w h; (try dsimp only at h); go_simp; try with_reducible rfl) ?_
 try simp only [Act.put, sA, sB, sC]
 refine tk 3 rfl (by intro w h; (try dsimp only at h); go_simp; try with_reducible rfl) ?_
 try simp only [Act.put, sA, sB, sC]
 refine tk 5 rfl (by intro w h; (try dsimp only at h); go_simp; try with_reducible rfl) ?_
 try simp only [Act.put, sA, sB, sC]
 refine tk 6 rfl (by intro w h; (try dsimp only at h); go_simp; try with_reducible rfl) ?_
 try simp only [Act.put, sA, sB, sC]
 refine tk 7 rfl (by intro w h; (try dsimp only at h); go_simp; try with_reducible rfl) ?_
 try simp only [Act.put, sA, sB, sC]
 refine tk 8 rfl (by intro w h; (try dsimp only at h); go_simp; try with_reducible rfl) ?_
 try simp only [Act.put, sA, sB, sC]
 refine take_call (i := 4) rfl (by kernel_rfl) (by rfl) (fun Kq hK => ?_)
 go_simp
 go_at_call 134
 refine (cmpInt_any _ _ w1.drew).mono ?_
 rintro e w' ⟨rfl, rfl⟩
 refine hK.out _ _ ?ha4 (fun hHeld => ?ra4)
 case ha4 => ((try dsimp only); go_keep)
 clear hK Kq
 try simp only [Act.put, sA, sB, sC]
 refine take_call (i := 9) rfl (by kernel_rfl) (by rfl) (fun Kq hK => ?_)
 go_simp
 go_at_call 135
 refine (compareInts_any l l' pa qa pc qc S S w1.drew hp1 hq1 HP.out HQ.out).mono ?_
 rintro e w' ⟨rfl, rfl⟩
 refine hK.out _ _ ?ha9 (fun hHeld => ?ra9)
 case ha9 => ((try dsimp only); go_keep)
 clear hK Kq
 try simp only [Act.put, sA, sB, sC]
 refine take_call (i := 10) rfl (by kernel_rfl) (by rfl) (fun Kq hK => ?_)
 go_simp
 obtain ⟨g3, hg3⟩ : ∃ g, g = w1.heap.size := ⟨_, rfl⟩
 obtain ⟨w3, hw3⟩ : ∃ w3 : World, w3 = (w1.alloc (.cells #[.int .i64 (cmpI pr qr), .int .i64 (cmpL l l')] 3)).drew := ⟨_, rfl⟩
 rw [← hw3, ← hg3]
 have hb3 : Below w1.heap.size w1 w3 := by rw [hw3]; exact ((Below.refl _ _).alloc (Nat.le_refl _) _).drew
 have HG3 : Hid (Below w.heap.size w w3) := Lib.hid (bthen HG1.out hb3 HG1.out.size)
 have HE3 : Hid (Els w3 (fun _ => True) [cmpI pr qr, cmpL l l'] (some ⟨g3, 0, none⟩)) := Lib.hid (els_icells (t := 3) (by rw [hw3, hg3]; exact (Blk'.new _ _ _).drew) (by intro v hv; simp at hv; rcases hv with rfl | rfl; exact cmpI_range _ _; exact cmpL_rg _ _) trivial)
 have a0y : w3.cell? ⟨w.heap.size, 0, none⟩ = some (.int .i64 pr) := (hb3.cell (p := ⟨w.heap.size, 0, none⟩) zA).trans a0
 have a1y : w3.cell? ⟨w.heap.size, 1, none⟩ = some (.slice pa l.length pc) := (hb3.cell (p := ⟨w.heap.size, 1, none⟩) zA).trans a1
 have b0y : w3.cell? ⟨w.heap.size + 1, 0, none⟩ = some (.int .i64 qr) := (hb3.cell (p := ⟨w.heap.size + 1, 0, none⟩) zB).trans b0
 have b1y : w3.cell? ⟨w.heap.size + 1, 1, none⟩ = some (.slice qa l'.length qc) := (hb3.cell (p := ⟨w.heap.size + 1, 1, none⟩) zB).trans b1
 have zAy : w.heap.size < w3.heap.size := Nat.lt_of_lt_of_le zA hb3.size
 have zBy : w.heap.size + 1 < w3.heap.size := Nat.lt_of_lt_of_le zB hb3.size
 clear hw3 hg3 hb3
 refine hK.out _ _ ?ha10 (fun hHeld => ?ra10)
 case ha10 => ((try dsimp only); go_keep)
 clear hK Kq
 try simp only [Act.put, sA, sB, sC]
 refine take_call (i := 11) rfl (by kernel_rfl) (by rfl) (fun Kq hK => ?_)
 go_simp
 go_at_call 133
 refine (or_any (some ⟨g3, 0, none⟩) 2 [cmpI pr qr, cmpL l l'] (fun _ => True) w3 (by simp) (by omega) HE3.out).mono ?_
 rintro e w' ⟨rfl, rfl⟩
 refine hK.out _ _ ?ha11 (fun hHeld => ?ra11)
 case ha11 => ((try dsimp only); go_keep)
 clear hK Kq
 try simp only [Act.put, sA, sB, sC]
 refine tk 12 rfl (by intro w h; (try dsimp only at h); go_simp; try with_reducible rfl) ?_
 try simp only [Act.put, sA, sB, sC]
 refine wpAnyH_done (by kernel_rfl) ?_ _
 refine NoPanic.normal ?_
 go_wp2
 go_ret
 exact ⟨⟨_, rfl⟩, HG3.out⟩
end Go.Proofs.YtjdojogjogenkaaDoor
/- Contract: factor.common: how many symbols two right sides have in common at the beginning. -/
namespace Go.Proofs.YtjdojogjogenkaaDoor
open Go.RowKit
set_option linter.unusedVariables false
def comL : List Sym → List Sym → Nat
 | x :: a, y :: b => if x = y then comL a b + 1 else 0
 | _, _ => 0
theorem comL_at : ∀ (k : Nat) (a b : List Sym), a.take k = b.take k → k ≤ a.length → k ≤ b.length → (∀ x y, a[k]? = some x → b[k]? = some y → x ≠ y) → comL a b = k
 | 0, [], b, _, _, _, _ => by simp [comL]
 | 0, x :: a, [], _, _, _, _ => by simp [comL]
 | 0, x :: a, y :: b, _, _, _, h => by
  rw [comL, if_neg (h x y (by simp) (by simp))]
 | k + 1, [], b, _, h, _, _ => by simp at h
 | k + 1, x :: a, [], _, _, h, _ => by simp at h
 | k + 1, x :: a, y :: b, h, h1, h2, h3 => by
  simp only [List.take_succ_cons, List.cons.injEq] at h
  rw [comL, if_pos h.1, comL_at k a b h.2 (by simpa using h1) (by simpa using h2) (fun u v hu hv => h3 u v (by simpa using hu) (by simpa using hv))]
theorem comL_le : ∀ (a b : List Sym), comL a b ≤ a.length ∧ comL a b ≤ b.length ∧ a.take (comL a b) = b.take (comL a b)
 | [], b => by simp [comL]
 | x :: a, [] => by simp [comL]
 | x :: a, y :: b => by
  rw [comL]
  split
  ·rename_i e
   have := comL_le a b
   simp only [List.length_cons, List.take_succ_cons, e]
   exact ⟨by omega, by omega, by rw [this.2.2]⟩
  ·simp
set_option maxRecDepth 100000 in
set_option maxHeartbeats 1000000 in
theorem common_any (A A' : Option Addr) (xs ys : List Sym) (c c' : Nat) (S S' : Nat → Prop) (w : World) (hm : xs.length ≤ 1000000) (hm' : ys.length ≤ 1000000) (hA : Els w S xs A) (hA' : Els w S' ys A') :
  Calls Tryd.prog 125 #[.slice A xs.length c, .slice A' ys.length c'] w fun e w' => e = .returned (.int .i64 (comL xs ys : Nat)) ∧ Below w.heap.size w w' := by
 go_enter Tryd.func125, Tryd.ntmps125
 go_wp2
 go_loopw [5] (fun i wr => ∃ k : Nat, k ≤ xs.length ∧ k ≤ ys.length ∧ i = .int .i64 k ∧ Hid (xs.take k = ys.take k) ∧ Below w.heap.size w wr) (fun i _ => xs.length - (intOf i).toNat)
 case atStart => exact ⟨0, Nat.zero_le _, Nat.zero_le _, rfl, Lib.hid rfl, Below.refl _ _⟩
 case round =>
  obtain ⟨wo, hwo⟩ : ∃ wo : World, wo = wr := ⟨_, rfl⟩
  subst hwo
  obtain ⟨k, hk, hk', rfl, HT, hb⟩ := hrel
  have HB := Lib.hid hb
  clear hb
  have hk0 : (0 : Int) ≤ (k : Int) := by omega
  by_cases hlt : k < xs.length
  ·have hk1 : (k : Int) < (xs.length : Int) := by omega
   by_cases hlt' : k < ys.length
   ·have hk2 : (k : Int) < (ys.length : Int) := by omega
    obtain ⟨x, hx⟩ := get_some hlt
    obtain ⟨y, hy⟩ := get_some hlt'
    obtain ⟨b, o, rfl, _, hbs, hi, hc0, hc1⟩ := (hA.below HB.out).sym hx
    obtain ⟨b', o', rfl, _, hbs', hi', hc0', hc1'⟩ := (hA'.below HB.out).sym hy
    have HX := Lib.hid (And.intro hx hy)
    clear hx hy
    obtain ⟨t, z⟩ := x
    obtain ⟨t', z'⟩ := y
    dsimp only at *
    have d1 : decide ((k : Int) < (xs.length : Int)) = true := decide_eq_true hk1
    have d2 : decide ((k : Int) < (ys.length : Int)) = true := decide_eq_true hk2
    by_cases ht : t = t'
    ·subst ht
     by_cases hz : z = z'
     ·subst hz
      have HE := Lib.hid (take_eq HX.out.1 HX.out.2 rfl HT.out)
      go_wp2_with fail
      go_quiet (fail)
      clear d1 d2
      go_wp2
      go_roundw
      case rel => exact ⟨k + 1, hlt, hlt', by go_num, HE, bdrewN HB.out⟩
      case measure => simp [intOf]; omega
     ·have HE := Lib.hid (comL_at k xs ys HT.out hk hk' (fun u v hu hv => by rw [HX.out.1] at hu; rw [HX.out.2] at hv; injection hu with hu; injection hv with hv; subst hu; subst hv; intro e; injection e with _ e; exact hz e))
      have hq : (z == z') = false := by simp [hz]
      clear hz
      go_wp2_with fail
      go_quiet (fail)
      clear d1 d2
      go_wp2
      go_ret
      exact ⟨ret_int (by rw [HE.out]), bdrewN HB.out⟩
    ·have HE := Lib.hid (comL_at k xs ys HT.out hk hk' (fun u v hu hv => by rw [HX.out.1] at hu; rw [HX.out.2] at hv; injection hu with hu; injection hv with hv; subst hu; subst hv; intro e; injection e with e _; exact ht e))
     have hq : (t == t') = false := by simp [ht]
     clear ht
     go_wp2_with fail
     go_quiet (fail)
     clear d1 d2
     go_wp2
     go_ret
     exact ⟨ret_int (by rw [HE.out]), bdrewN HB.out⟩
   ·have HE := Lib.hid (comL_at k xs ys HT.out hk hk' (fun u v hu hv => by rw [List.getElem?_eq_none (by omega)] at hv; cases hv))
    have d1 : decide ((k : Int) < (xs.length : Int)) = true := decide_eq_true hk1
    have d2 : decide ((k : Int) < (ys.length : Int)) = false := decide_eq_false (by omega)
    go_wp2_with fail
    go_quiet (fail)
    clear d1 d2
    go_wp2
    go_ret
    exact ⟨ret_int (by rw [HE.out]), bdrewN HB.out⟩
  ·have HE := Lib.hid (comL_at k xs ys HT.out hk hk' (fun u v hu hv => by rw [List.getElem?_eq_none (by omega)] at hu; cases hu))
   have d1 : decide ((k : Int) < (xs.length : Int)) = false := decide_eq_false (by omega)
   go_wp2_with fail
   go_quiet (fail)
   clear d1
   go_wp2
   go_ret
   exact ⟨ret_int (by rw [HE.out]), bdrewN HB.out⟩
end Go.Proofs.YtjdojogjogenkaaDoor
/- The numbers of the rules that a predicate names; a valid grammar's number of rules. -/
namespace Go.Proofs.YtjdojogjogenkaaDoor
open Go.RowKit
set_option linter.unusedVariables false
def whereFrom (p : Rule → Bool) : Nat → List Rule → List Int
 | _, [] => []
 | k, r :: rs => if p r then (k : Int) :: whereFrom p (k + 1) rs else whereFrom p (k + 1) rs
def whereE (g : Gram) (n : Int) : Int := if checkI g ≠ 0 then checkI g else if n < 0 ∨ g.nons ≤ n then 1 else 0
def whereL (g : Gram) (n : Int) (p : Rule → Bool) : List Int := if whereE g n = 0 then whereFrom p 0 g.rules else []
theorem whereFrom_len (p : Rule → Bool) : ∀ (k : Nat) (rs : List Rule), (whereFrom p k rs).length ≤ rs.length
 | _, [] => by simp [whereFrom]
 | k, r :: rs => by
  have := whereFrom_len p (k + 1) rs
  unfold whereFrom; split <;> simp <;> omega
def RetInts (w : World) (l : List Int) (er : Int) (e : Ending) (w' : World) : Prop :=
 ∃ v, e = .returned (.tuple #[v, .int .i64 er]) ∧ Own w' (fun _ => False) w.heap.size 3 v l ∧ Below w.heap.size w w'
theorem checkI_nonneg_len {g : Gram} (h : checkI g = 0) : g.rules.length ≤ 32 := by
 unfold checkI at h
 split at h
 ·omega
 ·split at h <;> omega
end Go.Proofs.YtjdojogjogenkaaDoor
/- Plain: which rules the next step of factoring takes. No program is named here. -/
namespace Go.Proofs.YtjdojogjogenkaaDoor
set_option linter.unusedVariables false
def firstsL (n : Int) (rs : List Rule) : List Sym := rs.filterMap fun r => if r.left = n then r.right.head? else none
def hasF (n : Int) (x : Sym) (r : Rule) : Bool := decide (r.left = n) && decide (r.right.head? = some x)
def placesL (g : Gram) (n : Int) (x : Sym) : List Int := whereFrom (hasF n x) 0 g.rules
def GrpIs (g : Gram) (n : Nat) (l : List Int) : Prop :=
 (l = [] ∧ ∀ m : Nat, m < n → (firstsL (m : Int) g.rules).Nodup) ∨
 ∃ (m : Nat) (x : Sym), m < n ∧ (∀ k : Nat, k < m → (firstsL (k : Int) g.rules).Nodup) ∧ 2 ≤ (firstsL (m : Int) g.rules).count x ∧ (∀ y, 2 ≤ (firstsL (m : Int) g.rules).count y → ¬ symCmp y x < 0) ∧ l = placesL g (m : Int) x
theorem firstsL_snoc_hit {n : Int} {pre : List Rule} {r : Rule} {x : Sym} {ss : List Sym} (h : r.left = n) (hr : r.right = x :: ss) : firstsL n (pre ++ [r]) = firstsL n pre ++ [x] := by
 unfold firstsL
 rw [List.filterMap_append]
 simp [h, hr]
theorem firstsL_snoc_miss {n : Int} {pre : List Rule} {r : Rule} (h : r.left ≠ n ∨ r.right = []) : firstsL n (pre ++ [r]) = firstsL n pre := by
 unfold firstsL
 rw [List.filterMap_append]
 rcases h with h | h
 ·simp [h]
 ·simp [h]
theorem firstsL_len (n : Int) (rs : List Rule) : (firstsL n rs).length ≤ rs.length := List.length_filterMap_le ..
theorem firstsL_mem {n : Int} {rs : List Rule} {x : Sym} (h : x ∈ firstsL n rs) : ∃ r ∈ rs, r.left = n ∧ r.right.head? = some x := by
 unfold firstsL at h
 obtain ⟨r, h1, h2⟩ := List.mem_filterMap.1 h
 split at h2
 ·rename_i h3; exact ⟨r, h1, h3, h2⟩
 ·cases h2
theorem whereFrom_ne (p : Rule → Bool) : ∀ (k : Nat) (rs : List Rule), (∃ r ∈ rs, p r = true) → whereFrom p k rs ≠ []
 | k, [], h => by obtain ⟨r, h, _⟩ := h; simp at h
 | k, r :: rs, h => by
  rw [whereFrom]
  split
  ·simp
  ·rename_i hp
   obtain ⟨q, hq, hpq⟩ := h
   rcases List.mem_cons.1 hq with rfl | hq
   ·exact absurd hpq hp
   ·exact whereFrom_ne p (k + 1) rs ⟨q, hq, hpq⟩
theorem placesL_ne {g : Gram} {n : Int} {x : Sym} (h : x ∈ firstsL n g.rules) : placesL g n x ≠ [] := by
 obtain ⟨r, h1, h2, h3⟩ := firstsL_mem h
 exact whereFrom_ne _ 0 _ ⟨r, h1, by simp [hasF, h2, h3]⟩
end Go.Proofs.YtjdojogjogenkaaDoor
