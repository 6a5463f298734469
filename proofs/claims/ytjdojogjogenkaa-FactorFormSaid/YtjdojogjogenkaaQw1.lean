/- Contracts of this proof, of several texts joined: Cmp, Ord, IdxSym, IdxRule, Check, WhereP, FacGrpP, GrB, SortS, SortRow, FacCom, Valid, FacQ, FacStP, IntRowR, CloneSymO, ContInt, SymMk, KeepT, Make, Has, CmpZero. -/
import Derived.Test.YtjdojogjogenkaaQp1
import Derived.Test.YtjdojogjogenkaaChecked
import Derived.Deep.RegionHeld3
import Derived.Deep.DrawnRows
import Derived.Deep.DeepCutAuto
import Derived.Sort.Grow
import Derived.Shelf.SlSortCmp.NoneTotal
import Derived.Deep.QuietTactic
import Derived.BigQuiet
import Derived.StillTailTactics
import Derived.Laws.CopyOwn
import Derived.Deep.OwnRows
import Derived.IntWalk
import Derived.Lib.SliceRun
import Derived.Deep.Cut
/- Contracts: cmp.Compare at int, cmp.Or at int. -/
namespace Go.Proofs.Ytjdojogjogenkaa
open Go.RowKit
def cmpI (a b : Int) : Int := if a < b then -1 else if b < a then 1 else 0
theorem cmpI_range (a b : Int) : I64 (cmpI a b) := by unfold cmpI I64; split <;> (try split) <;> omega
def orI : List Int → Int
 | [] => 0
 | x :: xs => if x = 0 then orI xs else x
theorem isNaN_any (x : Int) (w : World) : Calls Try.prog 79 #[.int .i64 x] w fun e w' => e = .returned (.bool false) ∧ w = w' := by
 go_enter Try.func79, Try.ntmps79
 go_wp2
 go_ret
 exact ⟨by simp, rfl⟩
theorem cmpInt_any (x y : Int) (w : World) : Calls Try.prog 74 #[.int .i64 x, .int .i64 y] w fun e w' => e = .returned (.int .i64 (cmpI x y)) ∧ w = w' := by
 go_enter Try.func74, Try.ntmps74
 go_wp2_with (go_at_call 79; refine (isNaN_any _ _).mono ?_; rintro e w' ⟨rfl, rfl⟩)
 all_goals
  go_ret
  refine ⟨?_, rfl⟩
  simp [cmpI]
  omega
set_option maxRecDepth 100000 in
theorem or_any (A : Option Addr) (c : Nat) (xs : List Int) (S : Nat → Prop) (w : World) (hn : xs.length ≤ c) (hc : c ≤ 9223372036854775807) (hA : Els w S xs A) :
  Calls Try.prog 73 #[.slice A xs.length c] w fun e w' => e = .returned (.int .i64 (orI xs)) ∧ w = w' := by
 go_enter Try.func73, Try.ntmps73
 go_wp2
 go_loop [8] (fun i => ∃ k : Nat, k ≤ xs.length ∧ i = .int .i64 k ∧ orI xs = orI (xs.drop k)) (fun i => xs.length - (intOf i).toNat)
 case atStart => exact ⟨0, Nat.zero_le _, rfl, rfl⟩
 case round =>
  obtain ⟨k, hk, rfl, hr⟩ := hrel
  have Hr := Lib.hid hr
  clear hr
  by_cases hlt : k < xs.length
  ·obtain ⟨x, hx⟩ := get_some hlt
   obtain ⟨b, o, rfl, _, hb, hi, hcell⟩ := hA.int hx
   have Hd := Lib.hid (drop_cons hx)
   clear hx hA
   by_cases h0 : x = 0
   ·subst h0
    go_wp2
    go_round
    case rel => exact ⟨k + 1, by omega, by go_num, by rw [Hr.out, Hd.out]; simp [orI]⟩
    case measure => simp [intOf]; omega
   ·have h1 : (x != 0) = true := by simpa using h0
    have Hh := Lib.hid h0
    clear h0
    go_wp2
    go_ret
    exact ⟨ret_int (by rw [Hr.out, Hd.out, orI, if_neg Hh.out]), rfl⟩
  ·go_wp2
   go_ret
   exact ⟨ret_int (by rw [Hr.out, List.drop_of_length_le (by omega)]; rfl), rfl⟩
theorem or2_any (g c : Nat) (x y : Int) (w : World) (hx : I64 x) (hy : I64 y) (hc : 2 ≤ c) (hc' : c ≤ 9223372036854775807) (h0 : w.cell? ⟨g, 0, none⟩ = some (.int .i64 x)) (h1 : w.cell? ⟨g, 1, none⟩ = some (.int .i64 y)) :
  Calls Try.prog 73 #[.slice (some ⟨g, 0, none⟩) 2 c] w fun e w' => e = .returned (.int .i64 (orI [x, y])) ∧ w = w' :=
 or_any (some ⟨g, 0, none⟩) c [x, y] (fun _ => True) w hc hc' fun _ => ⟨g, 0, rfl, trivial, fun i z hi => by
  match i, hi with
  | 0, hi => simp at hi; subst hi; exact ⟨[.int .i64 x], ⟨rfl, hx⟩, fun j u hu => by match j, hu with | 0, hu => simp at hu; subst hu; exact h0⟩
  | 1, hi => simp at hi; subst hi; exact ⟨[.int .i64 y], ⟨rfl, hy⟩, fun j u hu => by match j, hu with | 0, hu => simp at hu; subst hu; exact h1⟩⟩
end Go.Proofs.Ytjdojogjogenkaa
/- Contracts: gram.Order, slices.CompareFunc at symbols with gram.Order, gram.Compare. -/
namespace Go.Proofs.Ytjdojogjogenkaa
open Go.RowKit
set_option linter.unusedVariables false
def symCmp (a b : Sym) : Int := if a.term = b.term then cmpI a.n b.n else if a.term then -1 else 1
def symsCmp : List Sym → List Sym → Int
 | [], [] => 0
 | [], _ :: _ => -1
 | _ :: _, [] => 1
 | x :: xs, y :: ys => if symCmp x y = 0 then symsCmp xs ys else symCmp x y
def ruleCmp (a b : Rule) : Int := orI [cmpI a.left b.left, symsCmp a.right b.right]
theorem symCmp_range (a b : Sym) : I64 (symCmp a b) := by
 unfold symCmp
 split
 ·exact cmpI_range _ _
 ·split <;> (unfold I64; omega)
theorem symsCmp_range : ∀ (a b : List Sym), I64 (symsCmp a b)
 | [], [] => by unfold symsCmp I64; omega
 | [], _ :: _ => by unfold symsCmp I64; omega
 | _ :: _, [] => by unfold symsCmp I64; omega
 | x :: xs, y :: ys => by
  unfold symsCmp
  split
  ·exact symsCmp_range xs ys
  ·exact symCmp_range x y
theorem order_any (t t' : Bool) (z z' : Int) (w : World) : Calls Try.prog 62 #[.agg #[.bool t, .int .i64 z], .agg #[.bool t', .int .i64 z']] w fun e w' => e = .returned (.int .i64 (symCmp ⟨t, z⟩ ⟨t', z'⟩)) ∧ Below w.heap.size w w' := by
 cases t <;> cases t' <;> (
  go_enter Try.func62, Try.ntmps62
  go_wp2_with (go_at_call 74; refine (cmpInt_any _ _ _).mono ?_; rintro e w' ⟨rfl, rfl⟩)
  go_ret
  exact ⟨ret_int (by simp [symCmp]), ((Below.refl _ _).alloc (Nat.le_refl _) _).alloc (by simp) _⟩)
set_option maxRecDepth 100000 in
set_option maxHeartbeats 400000 in
theorem compareFunc_any (A A' : Option Addr) (c c' : Nat) (xs ys : List Sym) (S : Nat → Prop) (w : World) (hm : xs.length ≤ 9223372036854775807) (hm' : ys.length ≤ 9223372036854775807) (hA : Els w S xs A) (hA' : Els w S ys A') :
  Calls Try.prog 75 #[.slice A xs.length c, .slice A' ys.length c', .func (.func 62) #[] #[]] w
   fun e w' => e = .returned (.int .i64 (symsCmp xs ys)) ∧ Below w.heap.size w w' := by
 go_enter Try.func75, Try.ntmps75
 go_wp2
 go_loopw [13] (fun i wr => ∃ k : Nat, k ≤ xs.length ∧ k ≤ ys.length ∧ i = .int .i64 k ∧ symsCmp xs ys = symsCmp (xs.drop k) (ys.drop k) ∧ Below w.heap.size w wr) (fun i _ => xs.length - (intOf i).toNat)
 case atStart => exact ⟨0, Nat.zero_le _, Nat.zero_le _, rfl, rfl, Below.refl _ _⟩
 case round =>
  obtain ⟨k, hk, hk', rfl, hr, hb⟩ := hrel
  have Hr := Lib.hid hr
  have Hb := Lib.hid hb
  have HA := (hA.below hb)
  have HA' := (hA'.below hb)
  clear hr hb hA hA'
  by_cases hlt : k < xs.length
  ·obtain ⟨x, hx⟩ := get_some hlt
   obtain ⟨b, o, rfl, _, hbs, hi, hc0, hc1⟩ := HA.sym hx
   have Hd := Lib.hid (drop_cons hx)
   clear hx HA
   by_cases hlt' : k < ys.length
   ·obtain ⟨y, hy⟩ := get_some hlt'
    obtain ⟨b', o', rfl, _, hbs', hi', hc0', hc1'⟩ := HA'.sym hy
    have Hd' := Lib.hid (drop_cons hy)
    clear hy HA'
    obtain ⟨t, z⟩ := x
    obtain ⟨t', z'⟩ := y
    dsimp only at hc0 hc1 hc0' hc1'
    go_wp2_with fail
    refine (order_any _ _ _ _ _).mono ?_
    rintro e w1 ⟨rfl, hb1⟩
    have Hb1 := Lib.hid hb1
    clear hb1 hc0 hc1 hc0' hc1'
    by_cases h0 : symCmp ⟨t, z⟩ ⟨t', z'⟩ = 0
    ·have e0 : symsCmp xs ys = symsCmp (xs.drop (k + 1)) (ys.drop (k + 1)) := by rw [Hr.out, Hd.out, Hd'.out, symsCmp, if_pos h0]
     have E0 := Lib.hid e0
     clear e0
     rw [h0]
     go_wp2
     go_roundw
     case rel => exact ⟨k + 1, by omega, by omega, by go_num, E0.out, (Hb.out).trans ((((Below.refl _ _).alloc (Nat.le_refl _) _).alloc (by simp) _).trans (Hb1.out.mono (by simp; omega)) |>.mono (Hb.out.size))⟩
     case measure => simp [intOf]; omega
    ·have e0 : symsCmp xs ys = symCmp ⟨t, z⟩ ⟨t', z'⟩ := by rw [Hr.out, Hd.out, Hd'.out, symsCmp, if_neg h0]
     have E0 := Lib.hid e0
     clear e0
     have h1 : (symCmp ⟨t, z⟩ ⟨t', z'⟩ != 0) = true := by simpa using h0
     clear h0
     go_wp2
     go_ret
     exact ⟨ret_int E0.out.symm, (Hb.out).trans ((((Below.refl _ _).alloc (Nat.le_refl _) _).alloc (by simp) _).trans (Hb1.out.mono (by simp; omega)) |>.mono (Hb.out.size))⟩
   ·have e0 : symsCmp xs ys = 1 := by rw [Hr.out, Hd.out, List.drop_of_length_le (l := ys) (i := k) (by omega)]; rfl
    have E0 := Lib.hid e0
    clear e0
    go_wp2
    go_ret
    exact ⟨ret_int E0.out.symm, (Hb.out).alloc Hb.out.size _⟩
  ·by_cases hlt' : k < ys.length
   ·obtain ⟨y, hy⟩ := get_some hlt'
    have e0 : symsCmp xs ys = -1 := by rw [Hr.out, drop_cons hy, List.drop_of_length_le (by omega)]; rfl
    have E0 := Lib.hid e0
    clear e0 hy HA HA'
    have : xs.length < ys.length := by omega
    go_wp2
    go_ret
    exact ⟨ret_int E0.out.symm, Hb.out⟩
   ·have e0 : symsCmp xs ys = 0 := by rw [Hr.out, List.drop_of_length_le (by omega), List.drop_of_length_le (by omega)]; rfl
    have E0 := Lib.hid e0
    clear e0 HA HA'
    have : ¬ xs.length < ys.length := by omega
    go_wp2
    go_ret
    exact ⟨ret_int E0.out.symm, Hb.out⟩
attribute [local go_sem ↓] Go.wp_at_zero Go.wp_at_succ
set_option maxRecDepth 100000 in
set_option maxHeartbeats 400000 in
theorem compare_any (l l' : Int) (A A' : Option Addr) (c c' : Nat) (xs ys : List Sym) (S : Nat → Prop) (w : World) (hm : xs.length ≤ 9223372036854775807) (hm' : ys.length ≤ 9223372036854775807) (hA : Els w S xs A) (hA' : Els w S ys A') :
  Calls Try.prog 60 #[.agg #[.int .i64 l, .slice A xs.length c], .agg #[.int .i64 l', .slice A' ys.length c']] w
   fun e w' => e = .returned (.int .i64 (ruleCmp ⟨l, xs⟩ ⟨l', ys⟩)) ∧ Below w.heap.size w w' := by
 go_enter Try.func60, Try.ntmps60
 go_wp2
 have z2 : w.heap.size < w.heap.size + 1 + 1 := by omega
 go_region_held3 (fun w' => w'.cell? ⟨w.heap.size, 0, none⟩ = some (.int .i64 l) ∧ w'.cell? ⟨w.heap.size, 1, none⟩ = some (.slice A xs.length c) ∧ w'.cell? ⟨w.heap.size + 1, 0, none⟩ = some (.int .i64 l') ∧ w'.cell? ⟨w.heap.size + 1, 1, none⟩ = some (.slice A' ys.length c')) (go_keep)
  (first
   | (go_at_call 74; refine (cmpInt_any _ _ _).mono ?_; rintro e w' ⟨rfl, rfl⟩)
   | (go_at_call 75; refine (compareFunc_any A A' c c' xs ys S _ hm hm' (hA.below ?_) (hA'.below ?_)).mono ?_; (repeat (first | exact Below.refl _ _ | refine Below.drew ?_ | refine Below.alloc ?_ (by simp) _)); (repeat (first | exact Below.refl _ _ | refine Below.drew ?_ | refine Below.alloc ?_ (by simp) _)); rintro e w1 ⟨rfl, hb1⟩; obtain ⟨hc1, hf1⟩ := bcell hb1)
   | (go_at_call 73; refine (or2_any _ _ (cmpI l l') (symsCmp xs ys) _ ?_ ?_ ?_ ?_ ?_ ?_).mono ?_; exact cmpI_range _ _; exact symsCmp_range _ _; omega; omega; exact World.cell?_alloc_new _ _ _ _; exact World.cell?_alloc_new _ _ _ _; rintro e w' ⟨rfl, rfl⟩))
 all_goals
  clear hc1 hf1
  go_wp2
  go_ret
  exact ⟨ret_int rfl, (bthen (((Below.refl _ _).alloc (Nat.le_refl _) _).alloc (by simp) _).drew hb1 (by simp; omega)).alloc (by have := hb1.size; simp at this; omega) _⟩
end Go.Proofs.Ytjdojogjogenkaa
/- Contracts: slices.IndexFunc and slices.ContainsFunc at symbols, at whatever predicate. -/
namespace Go.Proofs.Ytjdojogjogenkaa
open Go.RowKit
set_option linter.unusedVariables false
set_option maxRecDepth 100000 in
theorem idxSym_any (A : Option Addr) (c : Nat) (xs : List Sym) (S : Nat → Prop) (w : World) (F : Nat) (cap : Value) (p : Sym → Bool) (hm : xs.length ≤ 9223372036854775807) (hA : Els w S xs A) (hgo : IsGo F)
  (hcall : ∀ (x : Sym) (W : World), x ∈ xs → Below w.heap.size w W → Calls Try.prog F #[.agg #[.bool x.term, .int .i64 x.n], cap] W fun e W' => e = .returned (.bool (p x)) ∧ Below W.heap.size W W') :
  Calls Try.prog 71 #[.slice A xs.length c, .func (.func F) #[] #[cap]] w fun e w' => e = .returned (.int .i64 (idxI p xs)) ∧ Below w.heap.size w w' := by
 have HC := Lib.hid hcall
 have hgo' : ∀ (args : Array Value) (W : World), (callFunc F args).run Try.prog W = .ok (.enter F args) W := hgo
 clear hcall hgo
 go_enter Try.func71, Try.ntmps71
 go_wp2
 go_loopw [8] (fun i wr => ∃ k : Nat, k ≤ xs.length ∧ i = .int .i64 k ∧ (∀ y ∈ xs.take k, p y = false) ∧ Below w.heap.size w wr) (fun i _ => xs.length - (intOf i).toNat)
 case atStart => exact ⟨0, Nat.zero_le _, rfl, by simp, Below.refl _ _⟩
 case round =>
  obtain ⟨k, hk, rfl, hno, hb⟩ := hrel
  have HN := Lib.hid hno
  have HB := Lib.hid hb
  clear hno hb
  by_cases hlt : k < xs.length
  ·obtain ⟨x, hx⟩ := get_some hlt
   obtain ⟨b, o, rfl, _, hbs, hi, hc0, hc1⟩ := (hA.below HB.out).sym hx
   have HX := Lib.hid hx
   have HM := Lib.hid (List.mem_of_getElem? hx)
   clear hx
   have hk0 : (0 : Int) ≤ (k : Int) := by omega
   have hk1 : (k : Int) < (xs.length : Int) := by omega
   go_wp2_with fail
   refine (HC.out x _ HM.out HB.out).mono ?_
   rintro e w1 ⟨rfl, hb1⟩
   have HB1 := Lib.hid hb1
   clear hb1
   cases hp : p x
   ·go_wp2
    go_roundw
    case rel => exact ⟨k + 1, by omega, by go_num, by
     rw [take_snoc HX.out]
     intro y hy
     rcases List.mem_append.1 hy with h | h
     ·exact HN.out y h
     ·simp at h; subst h; exact hp, bthen HB.out HB1.out HB.out.size⟩
    case measure => simp [intOf]; omega
   ·have E0 := Lib.hid (idxI_hit HX.out hp HN.out)
    clear hp
    go_wp2
    go_ret
    exact ⟨ret_int E0.out.symm, bthen HB.out HB1.out HB.out.size⟩
  ·have E0 := Lib.hid (show idxI p xs = -1 from idxI_none (by have h := HN.out; rwa [List.take_of_length_le (by omega)] at h))
   go_wp2
   go_ret
   exact ⟨ret_int E0.out.symm, HB.out⟩
theorem contSym_any (A : Option Addr) (c : Nat) (xs : List Sym) (S : Nat → Prop) (w : World) (F : Nat) (cap : Value) (p : Sym → Bool) (hm : xs.length ≤ 9223372036854775807) (hA : Els w S xs A) (hgo : IsGo F)
  (hcall : ∀ (x : Sym) (W : World), x ∈ xs → Below w.heap.size w W → Calls Try.prog F #[.agg #[.bool x.term, .int .i64 x.n], cap] W fun e W' => e = .returned (.bool (p x)) ∧ Below W.heap.size W W') :
  Calls Try.prog 55 #[.slice A xs.length c, .func (.func F) #[] #[cap]] w fun e w' => e = .returned (.bool (xs.any p)) ∧ Below w.heap.size w w' := by
 have HC := Lib.hid hcall
 have HG := Lib.hid hgo
 have HA := Lib.hid hA
 clear hcall hgo hA
 go_enter Try.func55, Try.ntmps55
 go_wp2_with fail
 refine (idxSym_any A c xs S w F cap p hm HA.out HG.out HC.out).mono ?_
 rintro e w1 ⟨rfl, hb1⟩
 go_wp2
 go_ret
 exact ⟨ret_bool (idxI_nonneg p xs), hb1⟩
theorem contSym_n (A : Option Addr) (n c : Nat) (xs : List Sym) (hn : n = xs.length) (S : Nat → Prop) (w : World) (F : Nat) (cap : Value) (p : Sym → Bool) (hm : xs.length ≤ 9223372036854775807) (hA : Els w S xs A) (hgo : IsGo F)
  (hcall : ∀ (x : Sym) (W : World), x ∈ xs → Below w.heap.size w W → Calls Try.prog F #[.agg #[.bool x.term, .int .i64 x.n], cap] W fun e W' => e = .returned (.bool (p x)) ∧ Below W.heap.size W W') :
  Calls Try.prog 55 #[.slice A n c, .func (.func F) #[] #[cap]] w fun e w' => e = .returned (.bool (xs.any p)) ∧ Below w.heap.size w w' := by
 subst hn; exact contSym_any A c xs S w F cap p hm hA hgo hcall
end Go.Proofs.Ytjdojogjogenkaa
/- Contracts: slices.IndexFunc and slices.ContainsFunc at rules, at whatever predicate. -/
namespace Go.Proofs.Ytjdojogjogenkaa
open Go.RowKit
set_option linter.unusedVariables false
set_option maxRecDepth 100000 in
theorem idxRule_any (A : Option Addr) (c : Nat) (xs : List Rule) (S : Nat → Prop) (w : World) (F : Nat) (cap : Value) (p : Rule → Bool) (hm : xs.length ≤ 9223372036854775807) (hA : Els w S xs A) (hgo : IsGo F)
  (hcall : ∀ (x : Rule) (W : World), x ∈ xs → Below w.heap.size w W → ∀ (A' : Option Addr) (c' : Nat), x.right.length ≤ c' → c' ≤ 9223372036854775807 → Els W S x.right A' → Calls Try.prog F #[.agg #[.int .i64 x.left, .slice A' x.right.length c'], cap] W fun e W' => e = .returned (.bool (p x)) ∧ Below W.heap.size W W') :
  Calls Try.prog 72 #[.slice A xs.length c, .func (.func F) #[] #[cap]] w fun e w' => e = .returned (.int .i64 (idxI p xs)) ∧ Below w.heap.size w w' := by
 have HC := Lib.hid hcall
 have hgo' : ∀ (args : Array Value) (W : World), (callFunc F args).run Try.prog W = .ok (.enter F args) W := hgo
 clear hcall hgo
 go_enter Try.func72, Try.ntmps72
 go_wp2
 go_loopw [8] (fun i wr => ∃ k : Nat, k ≤ xs.length ∧ i = .int .i64 k ∧ (∀ y ∈ xs.take k, p y = false) ∧ Below w.heap.size w wr) (fun i _ => xs.length - (intOf i).toNat)
 case atStart => exact ⟨0, Nat.zero_le _, rfl, by simp, Below.refl _ _⟩
 case round =>
  obtain ⟨k, hk, rfl, hno, hb⟩ := hrel
  have HN := Lib.hid hno
  have HB := Lib.hid hb
  clear hno hb
  by_cases hlt : k < xs.length
  ·obtain ⟨x, hx⟩ := get_some hlt
   obtain ⟨b, o, A1, c1, rfl, _, hbs, hi, hl1, hl2, hE1, hc0, hc1⟩ := (hA.below HB.out).rule hx
   have HE1 := Lib.hid hE1
   clear hE1
   have HX := Lib.hid hx
   have HM := Lib.hid (List.mem_of_getElem? hx)
   clear hx
   have hk0 : (0 : Int) ≤ (k : Int) := by omega
   have hk1 : (k : Int) < (xs.length : Int) := by omega
   go_wp2_with fail
   refine (HC.out x _ HM.out HB.out A1 c1 hl1 hl2 HE1.out).mono ?_
   rintro e w1 ⟨rfl, hb1⟩
   have HB1 := Lib.hid hb1
   clear hb1
   cases hp : p x
   ·go_wp2
    go_roundw
    case rel => exact ⟨k + 1, by omega, by go_num, by
     rw [take_snoc HX.out]
     intro y hy
     rcases List.mem_append.1 hy with h | h
     ·exact HN.out y h
     ·simp at h; subst h; exact hp, bthen HB.out HB1.out HB.out.size⟩
    case measure => simp [intOf]; omega
   ·have E0 := Lib.hid (idxI_hit HX.out hp HN.out)
    clear hp
    go_wp2
    go_ret
    exact ⟨ret_int E0.out.symm, bthen HB.out HB1.out HB.out.size⟩
  ·have E0 := Lib.hid (show idxI p xs = -1 from idxI_none (by have h := HN.out; rwa [List.take_of_length_le (by omega)] at h))
   go_wp2
   go_ret
   exact ⟨ret_int E0.out.symm, HB.out⟩
theorem contRule_any (A : Option Addr) (c : Nat) (xs : List Rule) (S : Nat → Prop) (w : World) (F : Nat) (cap : Value) (p : Rule → Bool) (hm : xs.length ≤ 9223372036854775807) (hA : Els w S xs A) (hgo : IsGo F)
  (hcall : ∀ (x : Rule) (W : World), x ∈ xs → Below w.heap.size w W → ∀ (A' : Option Addr) (c' : Nat), x.right.length ≤ c' → c' ≤ 9223372036854775807 → Els W S x.right A' → Calls Try.prog F #[.agg #[.int .i64 x.left, .slice A' x.right.length c'], cap] W fun e W' => e = .returned (.bool (p x)) ∧ Below W.heap.size W W') :
  Calls Try.prog 58 #[.slice A xs.length c, .func (.func F) #[] #[cap]] w fun e w' => e = .returned (.bool (xs.any p)) ∧ Below w.heap.size w w' := by
 have HC := Lib.hid hcall
 have HG := Lib.hid hgo
 have HA := Lib.hid hA
 clear hcall hgo hA
 go_enter Try.func58, Try.ntmps58
 go_wp2_with fail
 refine (idxRule_any A c xs S w F cap p hm HA.out HG.out HC.out).mono ?_
 rintro e w1 ⟨rfl, hb1⟩
 go_wp2
 go_ret
 exact ⟨ret_bool (idxI_nonneg p xs), hb1⟩
theorem contRule_n (A : Option Addr) (n c : Nat) (xs : List Rule) (hn : n = xs.length) (S : Nat → Prop) (w : World) (F : Nat) (cap : Value) (p : Rule → Bool) (hm : xs.length ≤ 9223372036854775807) (hA : Els w S xs A) (hgo : IsGo F)
  (hcall : ∀ (x : Rule) (W : World), x ∈ xs → Below w.heap.size w W → ∀ (A' : Option Addr) (c' : Nat), x.right.length ≤ c' → c' ≤ 9223372036854775807 → Els W S x.right A' → Calls Try.prog F #[.agg #[.int .i64 x.left, .slice A' x.right.length c'], cap] W fun e W' => e = .returned (.bool (p x)) ∧ Below W.heap.size W W') :
  Calls Try.prog 58 #[.slice A n c, .func (.func F) #[] #[cap]] w fun e w' => e = .returned (.bool (xs.any p)) ∧ Below w.heap.size w w' := by
 subst hn; exact contRule_any A c xs S w F cap p hm hA hgo hcall
end Go.Proofs.Ytjdojogjogenkaa
/- Contracts: gram.Has, gram.Check. -/
namespace Go.Proofs.Ytjdojogjogenkaa
open Go.RowKit
set_option linter.unusedVariables false
def symIn (t n : Int) (s : Sym) : Bool := decide (0 ≤ s.n) && (if s.term then decide (s.n < t) else decide (s.n < n))
theorem gHas_any (t n s0 : Int) (sl : Value) (st : Bool) (sn : Int) (w : World) (hsl : ∃ A k c, sl = .slice A k c) :
  Calls Try.prog 57 #[.agg #[.int .i64 t, .int .i64 n, .int .i64 s0, sl], .agg #[.bool st, .int .i64 sn]] w
   fun e w' => e = .returned (.bool (symIn t n ⟨st, sn⟩)) ∧ Below w.heap.size w w' := by
 obtain ⟨A, k, c, rfl⟩ := hsl
 have hb : ∀ o1 o2, Below w.heap.size w ((w.alloc o1).alloc o2) := fun o1 o2 => ((Below.refl _ _).alloc (Nat.le_refl _) _).alloc (by simp) _
 by_cases h0 : 0 ≤ sn
 ·cases st
  ·by_cases h1 : sn < n
   ·have E := Lib.hid (show symIn t n ⟨false, sn⟩ = true by simp [symIn, h0, h1])
    go_enter Try.func57, Try.ntmps57
    go_wp2
    go_ret
    exact ⟨ret_bool E.out.symm, hb _ _⟩
   ·have E := Lib.hid (show symIn t n ⟨false, sn⟩ = false by simp [symIn, h1])
    go_enter Try.func57, Try.ntmps57
    go_wp2
    go_ret
    exact ⟨ret_bool E.out.symm, hb _ _⟩
  ·by_cases h1 : sn < t
   ·have E := Lib.hid (show symIn t n ⟨true, sn⟩ = true by simp [symIn, h0, h1])
    go_enter Try.func57, Try.ntmps57
    go_wp2
    go_ret
    exact ⟨ret_bool E.out.symm, hb _ _⟩
   ·have E := Lib.hid (show symIn t n ⟨true, sn⟩ = false by simp [symIn, h1])
    go_enter Try.func57, Try.ntmps57
    go_wp2
    go_ret
    exact ⟨ret_bool E.out.symm, hb _ _⟩
 ·have E := Lib.hid (show symIn t n ⟨st, sn⟩ = false by simp [symIn, h0])
  go_enter Try.func57, Try.ntmps57
  go_wp2
  go_ret
  exact ⟨ret_bool E.out.symm, hb _ _⟩
theorem check1_any (t n s0 : Int) (A : Option Addr) (k c G : Nat) (st : Bool) (sn : Int) (w : World) (g0 : w.cell? ⟨G, 0, none⟩ = some (.int .i64 t)) (g1 : w.cell? ⟨G, 1, none⟩ = some (.int .i64 n)) (g2 : w.cell? ⟨G, 2, none⟩ = some (.int .i64 s0)) (g3 : w.cell? ⟨G, 3, none⟩ = some (.slice A k c)) :
  Calls Try.prog 56 #[.agg #[.bool st, .int .i64 sn], .pointer (some ⟨G, 0, none⟩)] w
   fun e w' => e = .returned (.bool (!symIn t n ⟨st, sn⟩)) ∧ Below w.heap.size w w' := by
 have hG : G < w.heap.size := World.block_lt_of_cell? w _ g0
 go_enter Try.func56, Try.ntmps56
 go_wp2_with fail
 refine (gHas_any t n s0 _ st sn _ ⟨A, k, c, rfl⟩).mono ?_
 rintro e w1 ⟨rfl, hb1⟩
 have HB := Lib.hid hb1
 clear hb1
 go_wp2
 go_ret
 exact ⟨rfl, bthen ((Below.refl _ _).alloc (Nat.le_refl _) _) HB.out (by simp)⟩
theorem check2_any (l l' : Int) (A A' : Option Addr) (c c' G : Nat) (xs ys : List Sym) (S : Nat → Prop) (w : World) (hm : xs.length ≤ 9223372036854775807) (hm' : ys.length ≤ 9223372036854775807) (hA : Els w S xs A) (hA' : Els w S ys A')
  (g0 : w.cell? ⟨G, 0, none⟩ = some (.int .i64 l')) (g1 : w.cell? ⟨G, 1, none⟩ = some (.slice A' ys.length c')) :
  Calls Try.prog 59 #[.agg #[.int .i64 l, .slice A xs.length c], .pointer (some ⟨G, 0, none⟩)] w
   fun e w' => e = .returned (.bool (ruleCmp ⟨l, xs⟩ ⟨l', ys⟩ == 0)) ∧ Below w.heap.size w w' := by
 have hG : G < w.heap.size := World.block_lt_of_cell? w _ g0
 have hb := (Below.refl w.heap.size w).alloc (Nat.le_refl _) (.cells #[.int .i64 l, .slice A xs.length c] 33)
 go_enter Try.func59, Try.ntmps59
 go_wp2_with fail
 refine (compare_any l l' A A' c c' xs ys S _ hm hm' (hA.below hb) (hA'.below hb)).mono ?_
 rintro e w1 ⟨rfl, hb1⟩
 have HB := Lib.hid hb1
 have Hb := Lib.hid hb
 clear hb1 hb
 go_wp2
 go_ret
 exact ⟨rfl, bthen Hb.out HB.out (by simp)⟩
def chkFrom (t n : Int) : List Rule → List Rule → Int
 | _, [] => 0
 | pre, r :: rs => if r.left < 0 ∨ n ≤ r.left then 3 else if 4 < r.right.length then 2 else if r.right.any (fun s => !symIn t n s) then 3 else if pre.any (fun x => ruleCmp x r == 0) then 6 else chkFrom t n (pre ++ [r]) rs
def gramBad (g : Gram) : Prop := g.terms < 1 ∨ 8 < g.terms ∨ g.nons < 1 ∨ 10 < g.nons ∨ g.start < 0 ∨ g.nons ≤ g.start
instance instDecBad (g : Gram) : Decidable (gramBad g) := by unfold gramBad; infer_instance
def checkI (g : Gram) : Int := if gramBad g then 1 else if 32 < g.rules.length then 2 else chkFrom g.terms g.nons [] g.rules
def BoolOf (P : Prop) (v : Value) : Prop := ∃ b : Bool, v = .bool b ∧ (b = true ↔ P)
theorem Els.take {α : Type} [Dat α] {w : World} {S : Nat → Prop} {xs : List α} {A : Option Addr} (h : Els w S xs A) (k : Nat) : Els w S (xs.take k) A := by
 intro hne
 obtain ⟨b, o, hA, hb, hx⟩ := h (by rintro rfl; simp at hne)
 refine ⟨b, o, hA, hb, fun i x hi => hx i x ?_⟩
 rw [List.getElem?_take] at hi
 split at hi
 ·exact hi
 ·cases hi
def CheckL (g : Gram) (A : Option Addr) (c : Nat) (w : World) (i : Value) (wr : World) : Prop :=
 ∃ k : Nat, k ≤ g.rules.length ∧ i = .int .i64 k ∧ checkI g = chkFrom g.terms g.nons (g.rules.take k) (g.rules.drop k) ∧ Below w.heap.size w wr ∧ Blk' wr w.heap.size 25 #[.int .i64 g.terms, .int .i64 g.nons, .int .i64 g.start, .slice A g.rules.length c]
set_option maxRecDepth 100000 in
set_option maxHeartbeats 1000000 in
theorem check_any (g : Gram) (A : Option Addr) (c : Nat) (S : Nat → Prop) (w : World) (hlc : g.rules.length ≤ c) (hc : c ≤ 9223372036854775807) (hA : Els w S g.rules A) :
  Calls Try.prog 40 #[.agg #[.int .i64 g.terms, .int .i64 g.nons, .int .i64 g.start, .slice A g.rules.length c]] w
   fun e w' => e = .returned (.int .i64 (checkI g)) ∧ Below w.heap.size w w' := by
 obtain ⟨t, n, s0, rs⟩ := g
 dsimp only at *
 go_enter Try.func40, Try.ntmps40
 go_upto_region 1 with fail
 go_cut [34] (fun v wx => wx = w.alloc (.cells #[.int .i64 t, .int .i64 n, .int .i64 s0, .slice A rs.length c] 25) ∧ BoolOf (gramBad ⟨t, n, s0, rs⟩) v)
 case first =>
  by_cases k1 : t < 1
  ·go_wp2_with fail
   go_meet
   exact ⟨rfl, true, rfl, by simp [gramBad]; omega⟩
  ·by_cases k2 : 8 < t
   ·go_wp2_with fail
    go_meet
    exact ⟨rfl, true, rfl, by simp [gramBad]; omega⟩
   ·by_cases k3 : n < 1
    ·go_wp2_with fail
     go_meet
     exact ⟨rfl, true, rfl, by simp [gramBad]; omega⟩
    ·by_cases k4 : 10 < n
     ·go_wp2_with fail
      go_meet
      exact ⟨rfl, true, rfl, by simp [gramBad]; omega⟩
     ·by_cases k5 : s0 < 0
      ·go_wp2_with fail
       go_meet
       exact ⟨rfl, true, rfl, by simp [gramBad]; omega⟩
      ·by_cases k6 : n ≤ s0
       ·go_wp2_with fail
        go_meet
        exact ⟨rfl, true, rfl, by simp [gramBad]; omega⟩
       ·go_wp2_with fail
        go_meet
        exact ⟨rfl, false, rfl, by simp [gramBad]; omega⟩
 case rest =>
  obtain ⟨hw, b, rfl, hbad⟩ := hcut
  subst hw
  have hb0 : Below w.heap.size w (w.alloc (.cells #[.int .i64 t, .int .i64 n, .int .i64 s0, .slice A rs.length c] 25)) := (Below.refl _ _).alloc (Nat.le_refl _) _
  have HB0 := Lib.hid hb0
  clear hb0
  cases b
  ·have hnb : ¬ gramBad ⟨t, n, s0, rs⟩ := fun h => by have := hbad.2 h; cases this
   clear hbad
   by_cases h32 : 32 < rs.length
   ·have E := Lib.hid (show checkI ⟨t, n, s0, rs⟩ = 2 by simp [checkI, hnb, h32])
    clear hnb
    have h32' : (32 : Int) < (rs.length : Int) := by omega
    go_wp2
    go_ret
    exact ⟨ret_int E.out.symm, HB0.out⟩
   ·have E := Lib.hid (show checkI ⟨t, n, s0, rs⟩ = chkFrom t n [] rs by simp [checkI, hnb, h32])
    clear hnb
    have h32' : ¬ (32 : Int) < (rs.length : Int) := by omega
    go_wp2
    go_loopw [42] (fun i wr => CheckL ⟨t, n, s0, rs⟩ A c w i wr) (fun i _ => rs.length - (intOf i).toNat)
    case atStart => exact ⟨0, Nat.zero_le _, rfl, by simpa using E.out, HB0.out, Blk'.new _ _ _⟩
    case round =>
     obtain ⟨wo, hwo⟩ : ∃ wo : World, wo = wr := ⟨_, rfl⟩
     subst hwo
     obtain ⟨k, hk, rfl, hr, hb, hG⟩ := hrel
     dsimp only at hk hr
     have Hr := Lib.hid hr
     have HB := Lib.hid hb
     have HG := Lib.hid hG
     have g1 : wo.cell? ⟨w.heap.size, 1, none⟩ = some (.int .i64 n) := hG.cell 1
     have g3 : wo.cell? ⟨w.heap.size, 3, none⟩ = some (.slice A rs.length c) := hG.cell 3
     have hGl := hG.lt
     clear hr hb hG E HB0
     by_cases hlt : k < rs.length
     ·obtain ⟨r, hx⟩ := get_some hlt
      obtain ⟨b, o, Ar, cr, rfl, hSb, hbs, hi, hrc, hcr, hEr, hc0, hc1⟩ := (hA.below HB.out).rule hx
      have Hd := Lib.hid (drop_cons hx)
      have Ht := Lib.hid (take_snoc hx)
      have HEr := Lib.hid hEr
      have HE := Lib.hid (hA.below HB.out)
      clear hx hEr
      obtain ⟨l, rr⟩ := r
      dsimp only at *
      have hk0 : (0 : Int) ≤ (k : Int) := by omega
      have hk1 : (k : Int) ≤ (c : Int) := by omega
      by_cases hl : l < 0 ∨ n ≤ l
      ·have E := Lib.hid (show checkI ⟨t, n, s0, rs⟩ = 3 by rw [Hr.out, Hd.out, chkFrom, if_pos hl])
       by_cases hl0 : l < 0
       ·clear hl
        go_wp2
        go_ret
        exact ⟨ret_int E.out.symm, HB.out.alloc HB.out.size _⟩
       ·have hl1 : n ≤ l := by omega
        clear hl
        go_wp2
        go_ret
        exact ⟨ret_int E.out.symm, HB.out.alloc HB.out.size _⟩
      ·have hl0 : ¬ l < 0 := by omega
       have hl1 : ¬ n ≤ l := by omega
       have E1 := Lib.hid (show checkI ⟨t, n, s0, rs⟩ = if 4 < rr.length then 2 else if rr.any (fun s => !symIn t n s) then 3 else if (rs.take k).any (fun x => ruleCmp x ⟨l, rr⟩ == 0) then 6 else chkFrom t n (rs.take k ++ [⟨l, rr⟩]) (rs.drop (k + 1)) by rw [Hr.out, Hd.out, chkFrom, if_neg hl])
       clear hl
       by_cases h4 : 4 < rr.length
       ·have E := Lib.hid (show checkI ⟨t, n, s0, rs⟩ = 2 by rw [E1.out, if_pos h4])
        have h4' : (4 : Int) < (rr.length : Int) := by omega
        go_wp2
        go_ret
        exact ⟨ret_int E.out.symm, HB.out.alloc HB.out.size _⟩
       ·have h4' : ¬ (4 : Int) < (rr.length : Int) := by omega
        have hba : Below wo.heap.size wo (wo.alloc (.cells #[.int .i64 l, .slice Ar rr.length cr] 33)) := (Below.refl _ _).alloc (Nat.le_refl _) _
        have HG1 := Lib.hid (HG.out.alloc (.cells #[.int .i64 l, .slice Ar rr.length cr] 33))
        have HE1 := Lib.hid (HEr.out.below hba)
        have hcl1 : ∀ (x : Sym) (W : World), x ∈ rr → Below (wo.alloc (.cells #[.int .i64 l, .slice Ar rr.length cr] 33)).heap.size (wo.alloc (.cells #[.int .i64 l, .slice Ar rr.length cr] 33)) W →
          Calls Try.prog 56 #[.agg #[.bool x.term, .int .i64 x.n], .pointer (some ⟨w.heap.size, 0, none⟩)] W fun e W' => e = .returned (.bool (!symIn t n x)) ∧ Below W.heap.size W W' := fun x W _ hW =>
         have hGW := HG1.out.below hW HG1.out.lt
         check1_any t n s0 (some ⟨b, o, none⟩) rs.length c w.heap.size x.term x.n W (hGW.cell 0) (hGW.cell 1) (hGW.cell 2) (hGW.cell 3)
        have HC1 := Lib.hid hcl1
        have Hba := Lib.hid hba
        clear hcl1 hba
        go_wp2_with fail
        refine (contSym_any Ar cr rr S _ _ _ (fun s => !symIn t n s) (by omega) HE1.out (isGo_of Try.func56 (by kernel_rfl) (by kernel_rfl)) HC1.out).mono ?_
        rintro e w1 ⟨rfl, hb1⟩
        have Hb1 := Lib.hid (bthen Hba.out hb1 (by simp))
        have hG1 := HG1.out.below hb1 HG1.out.lt
        have hR1 := (Blk'.new wo 33 #[.int .i64 l, .slice Ar rr.length cr]).below hb1 (by simp)
        have HG2 := Lib.hid hG1
        have HR2 := Lib.hid hR1
        have g13 : w1.cell? ⟨w.heap.size, 3, none⟩ = some (.slice (some ⟨b, o, none⟩) rs.length c) := hG1.cell 3
        clear hb1 hG1 hR1 HG1 HE1 HC1 Hba
        cases ha : rr.any (fun s => !symIn t n s)
        ·have E2 := Lib.hid (show checkI ⟨t, n, s0, rs⟩ = if (rs.take k).any (fun x => ruleCmp x ⟨l, rr⟩ == 0) then 6 else chkFrom t n (rs.take k ++ [⟨l, rr⟩]) (rs.drop (k + 1)) by rw [E1.out, if_neg h4, ha]; rfl)
         clear ha E1
         have HE2 := Lib.hid ((HE.out.below Hb1.out).take k)
         have HEr2 := Lib.hid (HEr.out.below Hb1.out)
         have hcl2 : ∀ (x : Rule) (W : World), x ∈ rs.take k → Below w1.heap.size w1 W → ∀ (A' : Option Addr) (c' : Nat), x.right.length ≤ c' → c' ≤ 9223372036854775807 → Els W S x.right A' →
           Calls Try.prog 59 #[.agg #[.int .i64 x.left, .slice A' x.right.length c'], .pointer (some ⟨wo.heap.size, 0, none⟩)] W fun e W' => e = .returned (.bool (ruleCmp x ⟨l, rr⟩ == 0)) ∧ Below W.heap.size W W' := fun x W _ hW A' c' q1 q2 q3 =>
          have hRW := HR2.out.below hW HR2.out.lt
          check2_any x.left l A' Ar c' cr wo.heap.size x.right rr S W (by omega) (by omega) q3 (HEr2.out.below hW) (hRW.cell 0) (hRW.cell 1)
         have HC2 := Lib.hid hcl2
         clear hcl2
         go_wp2_with fail
         refine (contRule_n (some ⟨b, o, none⟩) k c (rs.take k) (by simp; omega) S _ _ _ (fun x => ruleCmp x ⟨l, rr⟩ == 0) (by simp; omega) HE2.out (isGo_of Try.func59 (by kernel_rfl) (by kernel_rfl)) HC2.out).mono ?_
         rintro e w2 ⟨rfl, hb2⟩
         have Hb2 := Lib.hid hb2
         clear hb2
         have hzz : w.heap.size ≤ w1.heap.size := Nat.le_trans HB.out.size Hb1.out.size
         cases ha : (rs.take k).any (fun x => ruleCmp x ⟨l, rr⟩ == 0)
         ·have E3 := Lib.hid (show checkI ⟨t, n, s0, rs⟩ = chkFrom t n (rs.take (k + 1)) (rs.drop (k + 1)) by rw [E2.out, ha, Ht.out]; rfl)
          clear ha
          go_wp2
          go_roundw
          case rel => exact ⟨k + 1, hlt, by go_num, E3.out, bthen (bthen HB.out Hb1.out HB.out.size) Hb2.out hzz, HG2.out.below Hb2.out HG2.out.lt⟩
          case measure => simp [intOf]; omega
         ·have E := Lib.hid (show checkI ⟨t, n, s0, rs⟩ = 6 by rw [E2.out, ha]; rfl)
          clear ha
          go_wp2
          go_ret
          exact ⟨ret_int E.out.symm, bthen (bthen HB.out Hb1.out HB.out.size) Hb2.out hzz⟩
        ·have E := Lib.hid (show checkI ⟨t, n, s0, rs⟩ = 3 by rw [E1.out, if_neg h4, ha]; rfl)
         clear ha
         go_wp2
         go_ret
         exact ⟨ret_int E.out.symm, bthen HB.out Hb1.out HB.out.size⟩
     ·have E := Lib.hid (show checkI ⟨t, n, s0, rs⟩ = 0 by rw [Hr.out, List.drop_of_length_le (by omega)]; rfl)
      go_wp2
      go_ret
      exact ⟨ret_int E.out.symm, HB.out⟩
  ·have E := Lib.hid (show checkI ⟨t, n, s0, rs⟩ = 1 by rw [checkI, if_pos (hbad.1 rfl)])
   clear hbad
   go_wp2
   go_ret
   exact ⟨ret_int E.out.symm, HB0.out⟩
end Go.Proofs.Ytjdojogjogenkaa
/- The numbers of the rules that a predicate names; a valid grammar's number of rules. -/
namespace Go.Proofs.Ytjdojogjogenkaa
open Go.RowKit
set_option linter.unusedVariables false
def whereFrom (p : Rule → Bool) : Nat → List Rule → List Int
 | _, [] => []
 | k, r :: rs => if p r then (k : Int) :: whereFrom p (k + 1) rs else whereFrom p (k + 1) rs
def whereE (g : Gram) (n : Int) : Int := if checkI g ≠ 0 then checkI g else if n < 0 ∨ g.nons ≤ n then 1 else 0
def whereL (g : Gram) (n : Int) (p : Rule → Bool) : List Int := if whereE g n = 0 then whereFrom p 0 g.rules else []
theorem whereFrom_len (p : Rule → Bool) : ∀ (k : Nat) (rs : List Rule), (whereFrom p k rs).length ≤ rs.length
 | _, [] => by simp [whereFrom]
 | k, r :: rs => by
  have := whereFrom_len p (k + 1) rs
  unfold whereFrom; split <;> simp <;> omega
def RetInts (w : World) (l : List Int) (er : Int) (e : Ending) (w' : World) : Prop :=
 ∃ v, e = .returned (.tuple #[v, .int .i64 er]) ∧ Own w' (fun _ => False) w.heap.size 3 v l ∧ Below w.heap.size w w'
theorem checkI_nonneg_len {g : Gram} (h : checkI g = 0) : g.rules.length ≤ 32 := by
 unfold checkI at h
 split at h
 ·omega
 ·split at h <;> omega
end Go.Proofs.Ytjdojogjogenkaa
/- Plain: which rules the next step of factoring takes. No program is named here. -/
namespace Go.Proofs.Ytjdojogjogenkaa
set_option linter.unusedVariables false
def firstsL (n : Int) (rs : List Rule) : List Sym := rs.filterMap fun r => if r.left = n then r.right.head? else none
def hasF (n : Int) (x : Sym) (r : Rule) : Bool := decide (r.left = n) && decide (r.right.head? = some x)
def placesL (g : Gram) (n : Int) (x : Sym) : List Int := whereFrom (hasF n x) 0 g.rules
def GrpIs (g : Gram) (n : Nat) (l : List Int) : Prop :=
 (l = [] ∧ ∀ m : Nat, m < n → (firstsL (m : Int) g.rules).Nodup) ∨
 ∃ (m : Nat) (x : Sym), m < n ∧ (∀ k : Nat, k < m → (firstsL (k : Int) g.rules).Nodup) ∧ 2 ≤ (firstsL (m : Int) g.rules).count x ∧ (∀ y, 2 ≤ (firstsL (m : Int) g.rules).count y → ¬ symCmp y x < 0) ∧ l = placesL g (m : Int) x
theorem firstsL_snoc_hit {n : Int} {pre : List Rule} {r : Rule} {x : Sym} {ss : List Sym} (h : r.left = n) (hr : r.right = x :: ss) : firstsL n (pre ++ [r]) = firstsL n pre ++ [x] := by
 unfold firstsL
 rw [List.filterMap_append]
 simp [h, hr]
theorem firstsL_snoc_miss {n : Int} {pre : List Rule} {r : Rule} (h : r.left ≠ n ∨ r.right = []) : firstsL n (pre ++ [r]) = firstsL n pre := by
 unfold firstsL
 rw [List.filterMap_append]
 rcases h with h | h
 ·simp [h]
 ·simp [h]
theorem firstsL_len (n : Int) (rs : List Rule) : (firstsL n rs).length ≤ rs.length := List.length_filterMap_le ..
theorem firstsL_mem {n : Int} {rs : List Rule} {x : Sym} (h : x ∈ firstsL n rs) : ∃ r ∈ rs, r.left = n ∧ r.right.head? = some x := by
 unfold firstsL at h
 obtain ⟨r, h1, h2⟩ := List.mem_filterMap.1 h
 split at h2
 ·rename_i h3; exact ⟨r, h1, h3, h2⟩
 ·cases h2
theorem whereFrom_ne (p : Rule → Bool) : ∀ (k : Nat) (rs : List Rule), (∃ r ∈ rs, p r = true) → whereFrom p k rs ≠ []
 | k, [], h => by obtain ⟨r, h, _⟩ := h; simp at h
 | k, r :: rs, h => by
  rw [whereFrom]
  split
  ·simp
  ·rename_i hp
   obtain ⟨q, hq, hpq⟩ := h
   rcases List.mem_cons.1 hq with rfl | hq
   ·exact absurd hpq hp
   ·exact whereFrom_ne p (k + 1) rs ⟨q, hq, hpq⟩
theorem placesL_ne {g : Gram} {n : Int} {x : Sym} (h : x ∈ firstsL n g.rules) : placesL g n x ≠ [] := by
 obtain ⟨r, h1, h2, h3⟩ := firstsL_mem h
 exact whereFrom_ne _ 0 _ ⟨r, h1, by simp [hasF, h2, h3]⟩
end Go.Proofs.Ytjdojogjogenkaa
/- What the shelf's sort asks of a comparison: what lay stays, new blocks come behind it; gram.Order so. -/
namespace Go.Proofs.Ytjdojogjogenkaa
open Go.RowKit
set_option linter.unusedVariables false
def Gr (w w' : World) : Prop := ∃ (q : Nat) (os : Array Obj), w' = Go.Sort.grow (w.drewN q) os
theorem Gr.refl (w : World) : Gr w w := ⟨0, #[], by rw [Go.Sort.grow_empty]; rfl⟩
theorem Gr.trans {a b c : World} (h : Gr a b) (k : Gr b c) : Gr a c := by
 obtain ⟨q, os, rfl⟩ := h
 obtain ⟨p, ot, rfl⟩ := k
 refine ⟨q + p, os ++ ot, ?_⟩
 unfold Go.Sort.grow World.drewN
 simp only [Array.append_assoc, Nat.add_assoc]
theorem Gr.alloc {a b : World} (h : Gr a b) (o : Obj) : Gr a (b.alloc o) := h.trans ⟨0, #[o], by rw [Go.Sort.alloc_eq_grow]; rfl⟩
theorem Gr.drew {a b : World} (h : Gr a b) : Gr a b.drew := h.trans ⟨1, #[], by rw [Go.Sort.grow_empty]; rfl⟩
theorem Gr.undrew {a b : World} (h : Gr a.drew b) : Gr a b := ((Gr.refl a).drew).trans h
theorem Gr.below {a b : World} (h : Gr a b) : Below a.heap.size a b := by
 obtain ⟨q, os, rfl⟩ := h
 refine ⟨rfl, rfl, rfl, by simp [Go.Sort.grow, World.drewN], fun k hk => ?_⟩
 show (a.heap ++ os)[k]? = a.heap[k]?
 rw [Array.getElem?_append_left hk]
theorem order_Gr (t t' : Bool) (z z' : Int) (w : World) : Calls Try.prog 62 #[.agg #[.bool t, .int .i64 z], .agg #[.bool t', .int .i64 z']] w fun e w' => e = .returned (.int .i64 (symCmp ⟨t, z⟩ ⟨t', z'⟩)) ∧ Gr w w' := by
 cases t <;> cases t' <;> (
  go_enter Try.func62, Try.ntmps62
  go_wp2_with (go_at_call 74; refine (cmpInt_any _ _ _).mono ?_; rintro e w' ⟨rfl, rfl⟩)
  go_ret
  exact ⟨ret_int (by simp [symCmp]), ((Gr.refl _).alloc _).alloc _⟩)
end Go.Proofs.Ytjdojogjogenkaa
/- Contract: slices.SortFunc at symbols with gram.Order, by the shelf's contract: the row holds the same symbols in order. -/
namespace Go.Proofs.Ytjdojogjogenkaa
open Go.RowKit Go.Sort Go.Shelf
set_option linter.unusedVariables false
instance : Inhabited Sym := ⟨⟨false, 0⟩⟩
def symC (x : Sym) : List Value := [.bool x.term, .int .i64 x.n]
theorem symCmp_ltS (a b : Sym) : symCmp a b < 0 ↔ (a.term = true ∧ b.term = false ∨ a.term = b.term ∧ a.n < b.n) := by
 obtain ⟨t, n⟩ := a
 obtain ⟨t', n'⟩ := b
 cases t <;> cases t' <;> simp [symCmp, cmpI] <;> (repeat' split) <;> (try simp) <;> omega
theorem kept_sortWorldS {α : Type} [Inhabited α] (enc : α → List Value) (k : Nat) (w : World) (blk off m : Nat) (dk : Array α) (os : Array Obj) : Kept (fun b => b = blk) w (sortWorldK enc k w blk off m dk os) := by
 unfold sortWorldK putRowK Go.Sort.grow Go.Sort.putRow Go.Sort.mapBlock Go.Sort.ahead
 refine ⟨rfl, rfl, rfl, by simp, fun k hk hx => ?_⟩
 show (w.heap.modify blk _ ++ os)[k]? = w.heap[k]?
 rw [Array.getElem?_append_left (by simpa using hk), Array.getElem?_modify, if_neg (fun e => hx e.symm)]
theorem swoS : Go.Sort.SWO (ltOf symCmp) where
 irrefl x := by
  unfold ltOf
  rw [decide_eq_false_iff_not, symCmp_ltS]
  rintro (⟨h1, h2⟩ | ⟨_, h⟩)
  ·rw [h1] at h2; cases h2
  ·omega
 trans x y z h1 h2 := by
  unfold ltOf at *
  rw [decide_eq_true_eq, symCmp_ltS] at *
  obtain ⟨xt, xn⟩ := x
  obtain ⟨yt, yn⟩ := y
  obtain ⟨zt, zn⟩ := z
  dsimp only at *
  cases xt <;> cases yt <;> cases zt <;> simp at h1 h2 ⊢ <;> omega
 ntrans x y z h1 h2 := by
  unfold ltOf at *
  rw [decide_eq_false_iff_not, symCmp_ltS] at *
  obtain ⟨xt, xn⟩ := x
  obtain ⟨yt, yn⟩ := y
  obtain ⟨zt, zn⟩ := z
  dsimp only at *
  cases xt <;> cases yt <;> cases zt <;> simp at h1 h2 ⊢ <;> omega
theorem sorder_go : ∀ args w, (callFunc 62 args).run Try.prog w = .ok (.enter 62 args) w := enters_of Try.func62 (by kernel_rfl) rfl
theorem symC_len (x : Sym) : (symC x).length = 2 := rfl
theorem symC_get (x : Sym) {j : Nat} (h : j < 2) : (symC x)[j]? = some ((symC x)[j]!) := by
 rw [List.getElem?_eq_getElem (by rw [symC_len]; exact h), List.getElem!_eq_getElem?_getD, List.getElem?_eq_getElem (by rw [symC_len]; exact h)]
 rfl
set_option maxRecDepth 100000 in
set_option maxHeartbeats 1000000 in
theorem sortS_any (w : World) (xs : List Sym) (g cap : Nat) (hR : ∀ (i : Nat) (x : Sym), xs[i]? = some x → At w g (i * 2) (symC x)) (hfz : ∀ i, w.frozen? ⟨g, i, none⟩ = false) (hg : g < w.heap.size) (hn : xs.length < 1000000) :
  Calls Try.prog 61 #[.slice (some ⟨g, 0, none⟩) xs.length cap, .func (.func 62) #[] #[]] w fun e w' => e = .returned (.tuple #[]) ∧
   ∃ ys : List Sym, ys.Perm xs ∧ SortedIn (ltOf symCmp) 0 xs.length ys.toArray ∧ (∀ (i : Nat) (x : Sym), ys[i]? = some x → At w' g (i * 2) (symC x)) ∧ Kept (fun b => b = g) w w' := by
 have hH : HoldsK symC 2 w g 0 xs.toArray := by
  intro j hj
  rw [size_flatK] at hj
  have hj' : j / 2 < xs.length := by simp at hj; omega
  refine ⟨?_, hfz _⟩
  rw [get_flatK _ _ _ _ hj, Nat.zero_add]
  have hx : xs[j / 2]? = some xs[j / 2] := List.getElem?_eq_getElem hj'
  have h1 := hR (j / 2) _ hx (j % 2) _ (symC_get _ (Nat.mod_lt _ (by omega)))
  rw [show j / 2 * 2 + j % 2 = j from by omega] at h1
  rw [h1, getElem!_pos xs.toArray (j / 2) (by simpa using hj')]
  simp
 have hcmp : CmpLays Try.prog 62 #[] symC 2 symCmp g 0 xs.toArray.size w := fun m os dk hs x y => (order_Gr x.term y.term x.n y.n _).mono fun e w' h => h
 have h := AnyQ.slices_SortFunc sortS 2 Try.isAgg35 Try.sizeOf35 symC symC_len (fun x v hv => by simp [symC] at hv; rcases hv with rfl | rfl <;> rfl) symCmp swoS 62 #[] g 0 cap xs.toArray w sorder_go hcmp hH hg (by simp; omega)
 have hsz : xs.toArray.size = xs.length := by simp
 rw [hsz] at h
 refine h.mono ?_
 rintro e w' ⟨rfl, d', n', os, ⟨hp1, _, hp2⟩, hsrt, rfl⟩
 have hd's : d'.size = xs.length := by rw [hp1, hsz]
 have hperm : d'.toList.Perm xs := by
  have e1 : d'.extract 0 xs.length = d' := by rw [← hd's]; exact Array.extract_size
  have e2 : xs.toArray.extract 0 xs.length = xs.toArray := by rw [← hsz]; exact Array.extract_size
  rw [e1, e2] at hp2
  simpa using hp2
 have hH' := holdsK_sortWorldK_c (enc := symC) (k := 2) (w := w) (blk := g) (off := 0) xs.toArray d' n' os hH hg hp1
 refine ⟨rfl, d'.toList, hperm, (by simpa using hsrt), fun i x hx j u hu => ?_, kept_sortWorldS symC 2 w g 0 n' d' os⟩
 have hi : i < d'.size := by have := (List.getElem?_eq_some_iff.1 hx).1; simpa using this
 have hj : j < 2 := by have := (List.getElem?_eq_some_iff.1 hu).1; rwa [symC_len] at this
 have hlt : i * 2 + j < d'.size * 2 := by omega
 have h1 := (hH' (i * 2 + j) (by rw [size_flatK]; exact hlt)).1
 rw [Nat.zero_add, get_flatK _ _ _ _ hlt, show (i * 2 + j) / 2 = i from by omega, show (i * 2 + j) % 2 = j from by omega, getElem!_pos d' i hi] at h1
 have e1 : d'[i] = x := by
  rw [Array.getElem?_toList, Array.getElem?_eq_getElem hi] at hx
  injection hx
 rw [e1] at h1
 rw [h1]
 have h2 := symC_get x hj
 rw [hu] at h2
 exact h2.symm
end Go.Proofs.Ytjdojogjogenkaa
/- A row of symbols of the call's own, sorted: what slices.SortFunc asks and what it leaves; at no element too. -/
namespace Go.Proofs.Ytjdojogjogenkaa
open Go.RowKit Go.Sort Go.Shelf
set_option linter.unusedVariables false
theorem sortNone_any (p : Option Addr) (cap : Nat) (fv : Value) (w : World) : Calls Try.prog 61 #[.slice p 0 cap, fv] w fun e w' => e = .returned (.tuple #[]) ∧ w' = w :=
 AnyF.slices_SortFunc_none sortS p cap fv w
theorem Own.symRow {w : World} {S : Nat → Prop} {base : Nat} {e : TypeId} {v : Value} {xs : List Sym} (h : Own w S base e v xs) (hne : xs ≠ []) :
  ∃ g c, v = .slice (some ⟨g, 0, none⟩) xs.length c ∧ xs.length ≤ c ∧ c ≤ 9223372036854775807 ∧ base ≤ g ∧ g < w.heap.size ∧ (∀ (i : Nat) (x : Sym), xs[i]? = some x → At w g (i * 2) (symC x)) ∧ (∀ i, w.frozen? ⟨g, i, none⟩ = false) := by
 have ho := h
 obtain ⟨css, h1, h2, h3⟩ := h
 rcases h1.2 with ⟨rfl, hn⟩ | ⟨g, cap, cur, rfl, hg, hh, hnc, hcm, hsz, htk⟩
 ·exact absurd (List.eq_nil_of_length_eq_zero hn) hne
 ·refine ⟨g, cap, rfl, hnc, by simpa [maxLen] using hcm, hg, (Array.getElem?_eq_some_iff.1 hh).1, fun i x hx => ?_, fun i => Blk'.frozen hh i⟩
  obtain ⟨g', c', cs, hv, _, _, ⟨rfl, _⟩, hat⟩ := ho.at_ hx
  injection hv with h1 _ _
  injection h1 with h1
  injection h1 with h1 _ _
  subst h1
  exact hat
theorem els_syms {w : World} {S : Nat → Prop} {g : Nat} {ys : List Sym} (hS : S g) (hg : g < w.heap.size) (hi : ∀ y ∈ ys, I64 y.n) (h : ∀ (i : Nat) (x : Sym), ys[i]? = some x → At w g (i * 2) (symC x)) : Els w S ys (some ⟨g, 0, none⟩) := by
 intro _
 exact ⟨g, 0, rfl, hS, fun i y hy => ⟨symC y, ⟨rfl, hi y (List.mem_of_getElem? hy)⟩, by rw [Nat.zero_add]; exact h i y hy⟩⟩
theorem sortRow_any (w : World) {base : Nat} (A : Option Addr) (xs : List Sym) (c : Nat) (hbw : base ≤ w.heap.size) (h : Own w (fun _ => False) base 35 (.slice A xs.length c) xs) (hi : ∀ x ∈ xs, I64 x.n) (hn : xs.length < 1000000) :
  Calls Try.prog 61 #[.slice A xs.length c, .func (.func 62) #[] #[]] w fun e w' => e = .returned (.tuple #[]) ∧
   ∃ ys : List Sym, ys.Perm xs ∧ SortedIn (ltOf symCmp) 0 ys.length ys.toArray ∧ Els w' (fun b => base ≤ b ∧ b < w'.heap.size) ys A ∧ Below base w w' := by
 by_cases hne : xs = []
 ·subst hne
  refine (sortNone_any A c _ w).mono ?_
  rintro e w' ⟨rfl, rfl⟩
  exact ⟨rfl, [], List.Perm.refl _, fun i j _ _ h => by simp at h, fun h => absurd rfl h, Below.refl _ _⟩
 ·obtain ⟨g, c', hv, _, _, hg, hgl, hR, hfz⟩ := h.symRow hne
  injection hv with h1 h2 h3
  subst h1; subst h3
  refine (sortS_any w xs g c hR hfz hgl hn).mono ?_
  rintro e w' ⟨rfl, ys, hp, hs, hat, hk⟩
  refine ⟨rfl, ys, hp, by rw [hp.length_eq]; exact hs, els_syms ⟨hg, Nat.lt_of_lt_of_le hgl hk.size⟩ (Nat.lt_of_lt_of_le hgl hk.size) (fun y hy => hi y (hp.mem_iff.1 hy)) hat, hk.to_below (fun b hb => by rw [hb]; exact hg) hbw⟩
theorem sorted_dup {ys : List Sym} (hs : SortedIn (ltOf symCmp) 0 ys.length ys.toArray) (h : ∀ (i : Nat) (x y : Sym), ys[i]? = some x → ys[i + 1]? = some y → x ≠ y) : ys.Nodup := by
 rw [List.Nodup, List.pairwise_iff_getElem]
 intro i j hi hj hij e
 have hge : ∀ (a b : Nat) (ha : a < ys.length) (hb : b < ys.length), a < b → ltOf symCmp ys[b] ys[a] = false := by
  intro a b ha hb hab
  have := hs a b (Nat.zero_le _) hab hb
  rw [getElem!_pos ys.toArray b (by simpa using hb), getElem!_pos ys.toArray a (by simpa using ha)] at this
  simpa using this
 have h1 : i + 1 < ys.length := by omega
 have h2 := h i _ _ (List.getElem?_eq_getElem hi) (List.getElem?_eq_getElem h1)
 have h3 := hge i (i + 1) hi h1 (by omega)
 have h4 : ltOf symCmp ys[i] ys[i + 1] = false := by
  by_cases e2 : i + 1 = j
  ·subst e2; exact absurd e h2
  ·have := hge (i + 1) j h1 hj (by omega)
   rw [e]
   exact this
 unfold ltOf at h3 h4
 rw [decide_eq_false_iff_not, symCmp_ltS] at h3 h4
 apply h2
 generalize ys[i] = x at *
 generalize ys[i + 1] = y at *
 obtain ⟨t, n⟩ := x
 obtain ⟨t', n'⟩ := y
 dsimp only at h3 h4
 cases t <;> cases t' <;> simp at h3 h4 ⊢ <;> omega
theorem sorted_le {ys : List Sym} (hs : SortedIn (ltOf symCmp) 0 ys.length ys.toArray) {a b : Nat} {x y : Sym} (ha : ys[a]? = some x) (hb : ys[b]? = some y) (hab : a < b) : ¬ symCmp y x < 0 := by
 obtain ⟨h1, e1⟩ := List.getElem?_eq_some_iff.1 ha
 obtain ⟨h2, e2⟩ := List.getElem?_eq_some_iff.1 hb
 have := hs a b (Nat.zero_le _) hab h2
 rw [getElem!_pos ys.toArray b (by simpa using h2), getElem!_pos ys.toArray a (by simpa using h1)] at this
 have h3 : ltOf symCmp y x = false := by rw [← e1, ← e2]; simpa using this
 unfold ltOf at h3
 rwa [decide_eq_false_iff_not] at h3
theorem two_at : ∀ (l : List Sym) (x : Sym), 2 ≤ l.count x → ∃ a b : Nat, a < b ∧ l[a]? = some x ∧ l[b]? = some x
 | [], x, h => by simp at h
 | y :: l, x, h => by
  by_cases e : y = x
  ·subst e
   rw [List.count_cons_self] at h
   have hp : 0 < l.count y := by omega
   obtain ⟨b, hb⟩ := List.getElem?_of_mem (List.count_pos_iff.1 hp)
   exact ⟨0, b + 1, by omega, by simp, by simpa using hb⟩
  ·rw [List.count_cons_of_ne e] at h
   obtain ⟨a, b, h1, h2, h3⟩ := two_at l x h
   exact ⟨a + 1, b + 1, by omega, by simpa using h2, by simpa using h3⟩
theorem count_two {l : List Sym} {x : Sym} {a b : Nat} (hab : a < b) (ha : l[a]? = some x) (hb : l[b]? = some x) : 2 ≤ l.count x := by
 rw [← List.take_append_drop b l, List.count_append]
 have h1 : x ∈ l.take b := List.mem_iff_getElem?.2 ⟨a, by rw [List.getElem?_take_of_lt hab]; exact ha⟩
 have h2 : x ∈ l.drop b := List.mem_iff_getElem?.2 ⟨0, by rw [List.getElem?_drop]; simpa using hb⟩
 have := List.count_pos_iff.2 h1
 have := List.count_pos_iff.2 h2
 omega
theorem sorted_same {ys : List Sym} (hs : SortedIn (ltOf symCmp) 0 ys.length ys.toArray) {a b : Nat} {x y : Sym} (ha : ys[a]? = some x) (hb : ys[b]? = some x) (hab : a < b) (hy : ys[a + 1]? = some y) : y = x := by
 by_cases e : a + 1 = b
 ·subst e; rw [hb] at hy; injection hy with hy; exact hy.symm
 ·have h1 := sorted_le hs ha hy (by omega)
  have h2 := sorted_le hs hy hb (by omega)
  rw [symCmp_ltS] at h1 h2
  obtain ⟨t, n⟩ := x
  obtain ⟨t', n'⟩ := y
  dsimp only at h1 h2
  cases t <;> cases t' <;> simp at h1 h2 ⊢ <;> omega
theorem sorted_first {ys : List Sym} (hs : SortedIn (ltOf symCmp) 0 ys.length ys.toArray) {p : Nat} {x : Sym} (hx : ys[p]? = some x) (hno : ∀ (i : Nat) (u v : Sym), i < p → ys[i]? = some u → ys[i + 1]? = some v → u ≠ v) {y : Sym} (hy : 2 ≤ ys.count y) : ¬ symCmp y x < 0 := by
 intro hlt
 obtain ⟨a, b, hab, ha, hb⟩ := two_at ys y hy
 have hbl := (List.getElem?_eq_some_iff.1 hb).1
 obtain ⟨z, hz⟩ : ∃ z, ys[a + 1]? = some z := ⟨_, List.getElem?_eq_getElem (by omega)⟩
 have e := sorted_same hs ha hb hab hz
 subst e
 by_cases hap : a < p
 ·exact hno a _ _ hap ha hz rfl
 ·by_cases e2 : a = p
  ·subst e2
   rw [ha] at hx
   injection hx with hx
   subst hx
   rw [symCmp_ltS] at hlt
   rcases hlt with ⟨h1, h2⟩ | ⟨_, h⟩
   ·rw [h1] at h2; cases h2
   ·omega
  ·exact sorted_le hs hx ha (by omega) hlt
end Go.Proofs.Ytjdojogjogenkaa
/- Contract: factor.common: how many symbols two right sides have in common at the beginning. -/
namespace Go.Proofs.Ytjdojogjogenkaa
open Go.RowKit
set_option linter.unusedVariables false
def comL : List Sym → List Sym → Nat
 | x :: a, y :: b => if x = y then comL a b + 1 else 0
 | _, _ => 0
theorem comL_at : ∀ (k : Nat) (a b : List Sym), a.take k = b.take k → k ≤ a.length → k ≤ b.length → (∀ x y, a[k]? = some x → b[k]? = some y → x ≠ y) → comL a b = k
 | 0, [], b, _, _, _, _ => by simp [comL]
 | 0, x :: a, [], _, _, _, _ => by simp [comL]
 | 0, x :: a, y :: b, _, _, _, h => by
  rw [comL, if_neg (h x y (by simp) (by simp))]
 | k + 1, [], b, _, h, _, _ => by simp at h
 | k + 1, x :: a, [], _, _, h, _ => by simp at h
 | k + 1, x :: a, y :: b, h, h1, h2, h3 => by
  simp only [List.take_succ_cons, List.cons.injEq] at h
  rw [comL, if_pos h.1, comL_at k a b h.2 (by simpa using h1) (by simpa using h2) (fun u v hu hv => h3 u v (by simpa using hu) (by simpa using hv))]
theorem comL_le : ∀ (a b : List Sym), comL a b ≤ a.length ∧ comL a b ≤ b.length ∧ a.take (comL a b) = b.take (comL a b)
 | [], b => by simp [comL]
 | x :: a, [] => by simp [comL]
 | x :: a, y :: b => by
  rw [comL]
  split
  ·rename_i e
   have := comL_le a b
   simp only [List.length_cons, List.take_succ_cons, e]
   exact ⟨by omega, by omega, by rw [this.2.2]⟩
  ·simp
set_option maxRecDepth 100000 in
set_option maxHeartbeats 1000000 in
theorem common_any (A A' : Option Addr) (xs ys : List Sym) (c c' : Nat) (S S' : Nat → Prop) (w : World) (hm : xs.length ≤ 1000000) (hm' : ys.length ≤ 1000000) (hA : Els w S xs A) (hA' : Els w S' ys A') :
  Calls Try.prog 63 #[.slice A xs.length c, .slice A' ys.length c'] w fun e w' => e = .returned (.int .i64 (comL xs ys : Nat)) ∧ Below w.heap.size w w' := by
 go_enter Try.func63, Try.ntmps63
 go_wp2
 go_loopw [5] (fun i wr => ∃ k : Nat, k ≤ xs.length ∧ k ≤ ys.length ∧ i = .int .i64 k ∧ Hid (xs.take k = ys.take k) ∧ Below w.heap.size w wr) (fun i _ => xs.length - (intOf i).toNat)
 case atStart => exact ⟨0, Nat.zero_le _, Nat.zero_le _, rfl, Lib.hid rfl, Below.refl _ _⟩
 case round =>
  obtain ⟨wo, hwo⟩ : ∃ wo : World, wo = wr := ⟨_, rfl⟩
  subst hwo
  obtain ⟨k, hk, hk', rfl, HT, hb⟩ := hrel
  have HB := Lib.hid hb
  clear hb
  have hk0 : (0 : Int) ≤ (k : Int) := by omega
  by_cases hlt : k < xs.length
  ·have hk1 : (k : Int) < (xs.length : Int) := by omega
   by_cases hlt' : k < ys.length
   ·have hk2 : (k : Int) < (ys.length : Int) := by omega
    obtain ⟨x, hx⟩ := get_some hlt
    obtain ⟨y, hy⟩ := get_some hlt'
    obtain ⟨b, o, rfl, _, hbs, hi, hc0, hc1⟩ := (hA.below HB.out).sym hx
    obtain ⟨b', o', rfl, _, hbs', hi', hc0', hc1'⟩ := (hA'.below HB.out).sym hy
    have HX := Lib.hid (And.intro hx hy)
    clear hx hy
    obtain ⟨t, z⟩ := x
    obtain ⟨t', z'⟩ := y
    dsimp only at *
    have d1 : decide ((k : Int) < (xs.length : Int)) = true := decide_eq_true hk1
    have d2 : decide ((k : Int) < (ys.length : Int)) = true := decide_eq_true hk2
    by_cases ht : t = t'
    ·subst ht
     by_cases hz : z = z'
     ·subst hz
      have HE := Lib.hid (take_eq HX.out.1 HX.out.2 rfl HT.out)
      go_wp2_with fail
      go_quiet (fail)
      clear d1 d2
      go_wp2
      go_roundw
      case rel => exact ⟨k + 1, hlt, hlt', by go_num, HE, bdrewN HB.out⟩
      case measure => simp [intOf]; omega
     ·have HE := Lib.hid (comL_at k xs ys HT.out hk hk' (fun u v hu hv => by rw [HX.out.1] at hu; rw [HX.out.2] at hv; injection hu with hu; injection hv with hv; subst hu; subst hv; intro e; injection e with _ e; exact hz e))
      have hq : (z == z') = false := by simp [hz]
      clear hz
      go_wp2_with fail
      go_quiet (fail)
      clear d1 d2
      go_wp2
      go_ret
      exact ⟨ret_int (by rw [HE.out]), bdrewN HB.out⟩
    ·have HE := Lib.hid (comL_at k xs ys HT.out hk hk' (fun u v hu hv => by rw [HX.out.1] at hu; rw [HX.out.2] at hv; injection hu with hu; injection hv with hv; subst hu; subst hv; intro e; injection e with e _; exact ht e))
     have hq : (t == t') = false := by simp [ht]
     clear ht
     go_wp2_with fail
     go_quiet (fail)
     clear d1 d2
     go_wp2
     go_ret
     exact ⟨ret_int (by rw [HE.out]), bdrewN HB.out⟩
   ·have HE := Lib.hid (comL_at k xs ys HT.out hk hk' (fun u v hu hv => by rw [List.getElem?_eq_none (by omega)] at hv; cases hv))
    have d1 : decide ((k : Int) < (xs.length : Int)) = true := decide_eq_true hk1
    have d2 : decide ((k : Int) < (ys.length : Int)) = false := decide_eq_false (by omega)
    go_wp2_with fail
    go_quiet (fail)
    clear d1 d2
    go_wp2
    go_ret
    exact ⟨ret_int (by rw [HE.out]), bdrewN HB.out⟩
  ·have HE := Lib.hid (comL_at k xs ys HT.out hk hk' (fun u v hu hv => by rw [List.getElem?_eq_none (by omega)] at hu; cases hu))
   have d1 : decide ((k : Int) < (xs.length : Int)) = false := decide_eq_false (by omega)
   go_wp2_with fail
   go_quiet (fail)
   clear d1
   go_wp2
   go_ret
   exact ⟨ret_int (by rw [HE.out]), bdrewN HB.out⟩
end Go.Proofs.Ytjdojogjogenkaa
/- What a valid grammar is, off the value that gram.Check returns. -/
namespace Go.Proofs.Ytjdojogjogenkaa
open Go.RowKit
set_option linter.unusedVariables false
structure ValidG (g : Gram) : Prop where
 t1 : 1 ≤ g.terms
 t8 : g.terms ≤ 8
 n1 : 1 ≤ g.nons
 n10 : g.nons ≤ 10
 s0 : 0 ≤ g.start
 s1 : g.start < g.nons
 len : g.rules.length ≤ 32
 rules : ∀ q ∈ g.rules, 0 ≤ q.left ∧ q.left < g.nons ∧ q.right.length ≤ 4 ∧ ∀ x ∈ q.right, 0 ≤ x.n ∧ if x.term then x.n < g.terms else x.n < g.nons
theorem symIn_true {t n : Int} {s : Sym} (h : symIn t n s = true) : 0 ≤ s.n ∧ if s.term then s.n < t else s.n < n := by
 obtain ⟨b, k⟩ := s
 cases b <;> simp_all [symIn]
theorem chkFrom_zero {t n : Int} : ∀ (pre rs : List Rule), chkFrom t n pre rs = 0 → ∀ q ∈ rs, 0 ≤ q.left ∧ q.left < n ∧ q.right.length ≤ 4 ∧ ∀ x ∈ q.right, 0 ≤ x.n ∧ if x.term then x.n < t else x.n < n
 | _, [], _, q, hq => by simp at hq
 | pre, r :: rs, h, q, hq => by
  unfold chkFrom at h
  split at h
  ·cases h
  split at h
  ·cases h
  split at h
  ·cases h
  split at h
  ·cases h
  rename_i h1 h2 h3 h4
  rcases List.mem_cons.1 hq with rfl | hq
  ·refine ⟨by omega, by omega, by omega, fun x hx => symIn_true ?_⟩
   simp only [List.any_eq_true, not_exists, not_and] at h3
   have := h3 x hx
   simpa using this
  ·exact chkFrom_zero _ rs h q hq
theorem validG_of {g : Gram} (h : checkI g = 0) : ValidG g := by
 unfold checkI at h
 split at h
 ·cases h
 split at h
 ·cases h
 rename_i h1 h2
 unfold gramBad at h1
 exact ⟨by omega, by omega, by omega, by omega, by omega, by omega, by omega, chkFrom_zero _ _ h⟩
theorem ValidG.i64 {g : Gram} (h : ValidG g) : I64 g.terms ∧ I64 g.nons ∧ I64 g.start := by
 have := h.t1; have := h.t8; have := h.n1; have := h.n10; have := h.s0; have := h.s1
 unfold I64; omega
end Go.Proofs.Ytjdojogjogenkaa
/- Plain: the rules after a step of factoring, in order. No program is named here. -/
namespace Go.Proofs.Ytjdojogjogenkaa
set_option linter.unusedVariables false
def rulN (g : Gram) (k : Nat) : Rule := g.rules.getD k ⟨0, []⟩
theorem rulN_of {g : Gram} {i : Nat} {q : Rule} (h : g.rules[i]? = some q) : rulN g i = q := by unfold rulN; rw [List.getD_eq_getElem?_getD, h]; rfl
def keepB (l : List Nat) (k : Nat) : Bool := decide (k = l.headD 0) || !decide (k ∈ l)
def keepK (l : List Nat) (j : Nat) : List Nat := (List.range j).filter (keepB l)
def facRule (g : Gram) (l : List Nat) (cm : Nat) (k : Nat) : Rule := if k = l.headD 0 then ⟨(rulN g k).left, (rulN g k).right.take cm ++ [⟨false, g.nons⟩]⟩ else rulN g k
def facTo (g : Gram) (l : List Nat) (j : Nat) : List Int := (List.range g.rules.length).map fun k => if k < j ∧ k ∉ l then ((keepK l k).length : Int) else -1
def facTail (g : Gram) (l : List Nat) (p : Nat) : List Int := (List.range g.rules.length).map fun k => if k ∈ l.take p then (((keepK l g.rules.length).length + l.idxOf k : Nat) : Int) else -1
def facG (g : Gram) (l : List Nat) (cm : Nat) : Gram := ⟨g.terms, g.nons + 1, g.start, (keepK l g.rules.length).map (facRule g l cm) ++ l.map (fun k => ⟨g.nons, (rulN g k).right.drop cm⟩)⟩
def facHd (l : List Nat) : Int := ((keepK l (l.headD 0)).length : Int)
theorem keepK_get {l : List Nat} {k n : Nat} (hk : k < n) (hb : keepB l k = true) : (keepK l n)[(keepK l k).length]? = some k := by
 unfold keepK
 have e : List.range n = List.range k ++ k :: (List.range (n - k - 1)).map (· + (k + 1)) := by
  rw [show n = k + ((n - k - 1) + 1) from by omega, List.range_add, List.range_succ_eq_map]
  simp only [List.map_cons, List.map_map, Nat.add_zero]
  congr 2
  rw [show k + (n - k - 1 + 1) - k - 1 = n - k - 1 from by omega]
  apply List.map_congr_left
  intro a _
  simp only [Function.comp_apply]
  omega
 rw [e, List.filter_append, List.filter_cons, if_pos hb, List.getElem?_append_right (Nat.le_refl _), Nat.sub_self]
 rfl
theorem keepK_nodup (l : List Nat) (n : Nat) : (keepK l n).Nodup := List.Pairwise.filter _ List.nodup_range
theorem keepK_mem {l : List Nat} {n k : Nat} : k ∈ keepK l n ↔ k < n ∧ keepB l k = true := by unfold keepK; rw [List.mem_filter, List.mem_range]
theorem nodup_at {α : Type} {l : List α} (h : l.Nodup) {i j : Nat} {x : α} (hi : l[i]? = some x) (hj : l[j]? = some x) : i = j := by
 obtain ⟨h1, e1⟩ := List.getElem?_eq_some_iff.1 hi
 obtain ⟨h2, e2⟩ := List.getElem?_eq_some_iff.1 hj
 have hp := List.pairwise_iff_getElem.1 h
 rcases Nat.lt_trichotomy i j with hl | hl | hl
 ·exact absurd (e1.trans e2.symm) (hp i j h1 h2 hl)
 ·exact hl
 ·exact absurd (e2.trans e1.symm) (hp j i h2 h1 hl)
theorem keepK_at {l : List Nat} {n p k : Nat} (h : (keepK l n)[p]? = some k) : k < n ∧ keepB l k = true ∧ p = (keepK l k).length := by
 have hm := keepK_mem.1 (List.mem_of_getElem? h)
 exact ⟨hm.1, hm.2, nodup_at (keepK_nodup l n) h (keepK_get hm.1 hm.2)⟩
theorem keepB_head {l : List Nat} : keepB l (l.headD 0) = true := by simp [keepB]
theorem keepB_not {l : List Nat} {k : Nat} (h : k ∉ l) : keepB l k = true := by simp [keepB, h]
theorem keepB_mem {l : List Nat} {k : Nat} (h : keepB l k = true) : k = l.headD 0 ∨ k ∉ l := by
 unfold keepB at h
 simpa using h
theorem facTo_get {g : Gram} {l : List Nat} {j i : Nat} (hi : i < g.rules.length) : (facTo g l j)[i]? = some (if i < j ∧ i ∉ l then ((keepK l i).length : Int) else -1) := by
 unfold facTo
 rw [List.getElem?_map, List.getElem?_range hi]
 rfl
theorem facTail_get {g : Gram} {l : List Nat} {p i : Nat} (hi : i < g.rules.length) : (facTail g l p)[i]? = some (if i ∈ l.take p then (((keepK l g.rules.length).length + l.idxOf i : Nat) : Int) else -1) := by
 unfold facTail
 rw [List.getElem?_map, List.getElem?_range hi]
 rfl
theorem facTo_len (g : Gram) (l : List Nat) (j : Nat) : (facTo g l j).length = g.rules.length := by simp [facTo]
theorem facTail_len (g : Gram) (l : List Nat) (p : Nat) : (facTail g l p).length = g.rules.length := by simp [facTail]
theorem idxI_one {l : List Int} {i : Nat} {x : Int} (hi : l[i]? = some x) (hu : ∀ k : Nat, l[k]? = some x → k = i) : idxI (fun y => x == y) l = (i : Int) := by
 have hl := (List.getElem?_eq_some_iff.1 hi).1
 refine idxI_hit hi (by simp) (fun y hy => ?_)
 obtain ⟨k, hk⟩ := List.getElem?_of_mem hy
 have hkl := (List.getElem?_eq_some_iff.1 hk).1
 rw [List.length_take] at hkl
 rw [List.getElem?_take_of_lt (by omega)] at hk
 simp only [beq_eq_false_iff_ne, ne_eq]
 intro e
 subst e
 have := hu k hk
 omega
structure FacL (g : Gram) (l : List Nat) (cm : Nat) (a : Int) (pre : List Sym) : Prop where
 ne : l ≠ []
 nodup : l.Nodup
 len : pre.length = cm
 each : ∀ k ∈ l, ∃ q, g.rules[k]? = some q ∧ q.left = a ∧ q.right.take cm = pre ∧ cm ≤ q.right.length
theorem FacL.head {g : Gram} {l : List Nat} {cm : Nat} {a : Int} {pre : List Sym} (H : FacL g l cm a pre) : l.headD 0 ∈ l := by
 cases l with
 | nil => exact absurd rfl H.ne
 | cons x l => simp
theorem fac_ok {g : Gram} {l : List Nat} {cm : Nat} {a : Int} {pre : List Sym} (hv : ValidG g) (H : FacL g l cm a pre) : FacOk g (facG g l cm) cm (facHd l) (facTo g l g.rules.length) (facTail g l l.length) := by
 have hKl : ∀ (p k : Nat), (keepK l g.rules.length)[p]? = some k → (facG g l cm).rules[p]? = some (facRule g l cm k) := by
  intro p k h
  have hlt := (List.getElem?_eq_some_iff.1 h).1
  simp only [facG]
  rw [List.getElem?_append_left (by simpa using hlt), List.getElem?_map, h]
  rfl
 have hTl : ∀ (p k : Nat), l[p]? = some k → (facG g l cm).rules[(keepK l g.rules.length).length + p]? = some ⟨g.nons, (rulN g k).right.drop cm⟩ := by
  intro p k h
  simp only [facG]
  rw [List.getElem?_append_right (by simp), List.length_map, Nat.add_sub_cancel_left, List.getElem?_map, h]
  rfl
 have hh := H.head
 obtain ⟨qh, hq1, hq2, hq3, hq4⟩ := H.each _ hh
 have hhl := (List.getElem?_eq_some_iff.1 hq1).1
 have hold : ∀ q ∈ g.rules, q.left < g.nons ∧ ∀ s ∈ q.right, s.term = true ∨ s.n < g.nons := fun q hq => by
  have h := hv.rules q hq
  refine ⟨h.2.1, fun s hs => ?_⟩
  have h2 := (h.2.2.2 s hs).2
  by_cases ht : s.term = true
  ·exact .inl ht
  ·rw [if_neg ht] at h2; exact .inr h2
 have htoU : ∀ (i : Nat) (r : Nat), (facTo g l g.rules.length)[i]? = some (r : Int) → i < g.rules.length ∧ i ∉ l ∧ (keepK l g.rules.length)[r]? = some i := by
  intro i r h
  have hi := (List.getElem?_eq_some_iff.1 h).1
  rw [facTo_len] at hi
  rw [facTo_get hi] at h
  injection h with h
  split at h
  ·rename_i hc
   have e : r = (keepK l i).length := by omega
   subst e
   exact ⟨hi, hc.2, keepK_get hi (keepB_not hc.2)⟩
  ·omega
 have htlU : ∀ (i : Nat) (r : Nat), (facTail g l l.length)[i]? = some (r : Int) → i < g.rules.length ∧ i ∈ l ∧ r = (keepK l g.rules.length).length + l.idxOf i := by
  intro i r h
  have hi := (List.getElem?_eq_some_iff.1 h).1
  rw [facTail_len] at hi
  rw [facTail_get hi, List.take_length] at h
  injection h with h
  split at h
  ·rename_i hc
   exact ⟨hi, hc, by omega⟩
  ·omega
 have hneg : ∀ i : Nat, (facTo g l g.rules.length)[i]? = some (-1) → i ∈ l := by
  intro i h
  have hi := (List.getElem?_eq_some_iff.1 h).1
  rw [facTo_len] at hi
  rw [facTo_get hi] at h
  injection h with h
  split at h
  ·omega
  ·rename_i hc
   exact Classical.byContradiction fun hn => hc ⟨hi, hn⟩
 refine ⟨rfl, by unfold facHd; omega, ⟨a, pre, ?_, H.len, fun i q hq hto => ?_⟩, fun i q hq => ?_, fun r z hz => ?_, hold⟩
 ·unfold facHd
  rw [Int.toNat_natCast, hKl _ _ (keepK_get hhl keepB_head)]
  unfold facRule
  rw [if_pos rfl, rulN_of hq1, hq2, hq3]
 ·obtain ⟨q', h1, h2, h3, h4⟩ := H.each i (hneg i hto)
  rw [hq] at h1
  injection h1 with h1
  subst h1
  exact ⟨h2, h3, h4⟩
 ·have hi := (List.getElem?_eq_some_iff.1 hq).1
  by_cases hm : i ∈ l
  ·right
   refine ⟨?_, (keepK l g.rules.length).length + l.idxOf i, ?_, ?_, ?_⟩
   ·rw [facTo_get hi, if_neg (fun h => h.2 hm)]
   ·rw [facTail_get hi, List.take_length, if_pos hm]
   ·rw [hTl (l.idxOf i) i (List.getElem?_eq_some_iff.2 ⟨List.idxOf_lt_length_of_mem hm, List.getElem_idxOf _⟩), rulN_of hq]
   ·refine idxI_one (by rw [facTail_get hi, List.take_length, if_pos hm]) (fun k hk => ?_)
    obtain ⟨_, h2, h3⟩ := htlU k _ hk
    have h4 : l.idxOf k = l.idxOf i := by omega
    have h5 : l[l.idxOf k]? = some k := List.getElem?_eq_some_iff.2 ⟨List.idxOf_lt_length_of_mem h2, List.getElem_idxOf _⟩
    have h6 : l[l.idxOf i]? = some i := List.getElem?_eq_some_iff.2 ⟨List.idxOf_lt_length_of_mem hm, List.getElem_idxOf _⟩
    rw [h4, h6] at h5
    injection h5 with h5
    exact h5.symm
  ·left
   have hto : (facTo g l g.rules.length)[i]? = some (((keepK l i).length : Nat) : Int) := by rw [facTo_get hi, if_pos ⟨hi, hm⟩]
   refine ⟨(keepK l i).length, hto, ?_, ?_, ?_⟩
   ·intro e
    unfold facHd at e
    have h1 := keepK_get hi (keepB_not hm)
    have h2 := keepK_get hhl (keepB_head (l := l))
    rw [show (keepK l i).length = (keepK l (l.headD 0)).length from by omega, h2] at h1
    injection h1 with h1
    exact hm (h1 ▸ hh)
   ·rw [hKl _ _ (keepK_get hi (keepB_not hm))]
    unfold facRule
    rw [if_neg (fun (e : i = l.headD 0) => hm (by rw [e]; exact hh)), rulN_of hq]
   ·refine idxI_one hto (fun k hk => ?_)
    obtain ⟨_, _, h3⟩ := htoU k _ hk
    rw [keepK_get hi (keepB_not hm)] at h3
    injection h3 with h3
    exact h3.symm
 ·rcases Nat.lt_or_ge r (keepK l g.rules.length).length with hr | hr
  ·right
   have hk : (keepK l g.rules.length)[r]? = some (keepK l g.rules.length)[r] := List.getElem?_eq_getElem hr
   obtain ⟨k, hk⟩ : ∃ k, (keepK l g.rules.length)[r]? = some k := ⟨_, hk⟩
   rw [hKl r k hk] at hz
   injection hz with hz
   obtain ⟨h1, h2, h3⟩ := keepK_at hk
   obtain ⟨q, hq⟩ : ∃ q, g.rules[k]? = some q := ⟨_, List.getElem?_eq_getElem h1⟩
   have hlo := (hold q (List.mem_of_getElem? hq)).1
   have hzl : z.left = q.left := by
    rw [← hz]
    unfold facRule
    rw [rulN_of hq]
    split <;> rfl
   refine ⟨by omega, ?_⟩
   rcases keepB_mem h2 with h4 | h4
   ·left
    rw [h3, h4]
    rfl
   ·right
    refine ⟨k, q, hq, ?_⟩
    rw [facTo_get h1, if_pos ⟨h1, h4⟩, h3]
  ·left
   have hrl := (List.getElem?_eq_some_iff.1 hz).1
   simp only [facG, List.length_append, List.length_map] at hrl
   obtain ⟨k, hk⟩ : ∃ k, l[r - (keepK l g.rules.length).length]? = some k := ⟨_, List.getElem?_eq_getElem (by omega)⟩
   have h1 := hTl _ k hk
   rw [show (keepK l g.rules.length).length + (r - (keepK l g.rules.length).length) = r from by omega, hz] at h1
   injection h1 with h1
   have hm := List.mem_of_getElem? hk
   obtain ⟨q, e1, e2, e3, e4⟩ := H.each k hm
   have hkl := (List.getElem?_eq_some_iff.1 e1).1
   refine ⟨by rw [h1], k, q, ?_, e1, ?_⟩
   ·rw [facTo_get hkl, if_neg (fun h => h.2 hm)]
   ·rw [facTail_get hkl, List.take_length, if_pos hm]
    have h6 : l[l.idxOf k]? = some k := List.getElem?_eq_some_iff.2 ⟨List.idxOf_lt_length_of_mem hm, List.getElem_idxOf _⟩
    have := nodup_at H.nodup hk h6
    rw [show (keepK l g.rules.length).length + l.idxOf k = r from by omega]
theorem fac_bij {g h : Gram} {cm : Nat} {hd : Int} {tov tail : List Int} (H : FacOk g h cm hd tov tail) (hs : g.start < g.nons) : TreeBij g h (ftT tov tail cm hd) (fbT tov tail cm hd) := by
 refine ⟨fun t ht => ?_, fun u hu => ?_⟩
 ·rw [H.start]
  obtain ⟨a1, a2, a3, _⟩ := ft_law H (nodesT t) t (Nat.le_refl _) _ ht (.inr hs)
  exact ⟨a1, a2, a3⟩
 ·rw [H.start] at hu
  obtain ⟨a1, a2, _⟩ := fb_law H (nodesT u) u (Nat.le_refl _) _ hu (.inr hs)
  exact ⟨a1, a2⟩
end Go.Proofs.Ytjdojogjogenkaa
/- Plain: the steps of factoring, one after the other; a row of steps. No program is named here. -/
namespace Go.Proofs.Ytjdojogjogenkaa
open Go.RowKit
set_option linter.unusedVariables false
structure StepR where
 cm : Int
 hd : Int
 tos : List Int
 tails : List Int
 deriving DecidableEq, Repr
instance instDatStep : Dat StepR where
 size := 8
 wraps := true
 rd w S r cs := ∃ v1 v2 t n s v, cs = [.int .i64 r.cm, .int .i64 r.hd, v1, v2, .int .i64 t, .int .i64 n, .int .i64 s, v] ∧ I64 r.cm ∧ I64 r.hd ∧ Vl w S r.tos v1 ∧ Vl w S r.tails v2 ∧ ∃ A k c, v = .slice A k c
 len h := by obtain ⟨v1, v2, t, n, s, v, rfl, _⟩ := h; rfl
 pos := by decide
 flat h := by simp at h
 one h := by
  obtain ⟨v1, v2, t, n, s, v, rfl, _, _, h1, h2, A, k, c, rfl⟩ := h
  obtain ⟨A1, c1, rfl, _⟩ := h1.slice
  obtain ⟨A2, c2, rfl, _⟩ := h2.slice
  intro u hu; simp at hu; rcases hu with rfl | rfl | rfl | rfl | rfl | rfl | rfl | rfl <;> rfl
 keep hk hS h := by obtain ⟨v1, v2, t, n, s, v, h1, h2, h3, h4, h5, h6⟩ := h; exact ⟨v1, v2, t, n, s, v, h1, h2, h3, h4.keep hk hS, h5.keep hk hS, h6⟩
def placesFrom (n : Int) (x : Sym) : Nat → List Rule → List Nat
 | _, [] => []
 | k, r :: rs => if hasF n x r then k :: placesFrom n x (k + 1) rs else placesFrom n x (k + 1) rs
def placesN (g : Gram) (n : Int) (x : Sym) : List Nat := placesFrom n x 0 g.rules
def natsI (l : List Nat) : List Int := l.map fun k : Nat => (k : Int)
theorem natsI_get {l : List Nat} {p k : Nat} (h : l[p]? = some k) : (natsI l)[p]? = some (k : Int) := by unfold natsI; rw [List.getElem?_map, h]; rfl
theorem natsI_len (l : List Nat) : (natsI l).length = l.length := by simp [natsI]
theorem natsI_mem {l : List Nat} {k : Nat} : (k : Int) ∈ natsI l ↔ k ∈ l := by
 unfold natsI
 rw [List.mem_map]
 constructor
 ·rintro ⟨x, h, e⟩
  have : x = k := by omega
  subst this; exact h
 ·exact fun h => ⟨k, h, rfl⟩
theorem placesFrom_nats (n : Int) (x : Sym) : ∀ (k : Nat) (rs : List Rule), whereFrom (hasF n x) k rs = natsI (placesFrom n x k rs)
 | _, [] => rfl
 | k, r :: rs => by
  rw [whereFrom, placesFrom, placesFrom_nats n x (k + 1) rs]
  split <;> rfl
theorem places_nats (g : Gram) (n : Int) (x : Sym) : placesL g n x = natsI (placesN g n x) := placesFrom_nats n x 0 g.rules
theorem placesFrom_mem (n : Int) (x : Sym) : ∀ (k : Nat) (rs : List Rule) (y : Nat), y ∈ placesFrom n x k rs ↔ ∃ (i : Nat) (q : Rule), y = k + i ∧ rs[i]? = some q ∧ hasF n x q = true
 | k, [], y => by simp [placesFrom]
 | k, r :: rs, y => by
  rw [placesFrom]
  have ih := placesFrom_mem n x (k + 1) rs y
  have step : (∃ (i : Nat) (q : Rule), y = k + i ∧ (r :: rs)[i]? = some q ∧ hasF n x q = true) ↔ (y = k ∧ hasF n x r = true) ∨ ∃ (i : Nat) (q : Rule), y = k + 1 + i ∧ rs[i]? = some q ∧ hasF n x q = true := by
   constructor
   ·rintro ⟨i, q, h1, h2, h3⟩
    cases i with
    | zero => simp at h2; subst h2; exact .inl ⟨by omega, h3⟩
    | succ i => exact .inr ⟨i, q, by omega, by simpa using h2, h3⟩
   ·rintro (⟨h1, h2⟩ | ⟨i, q, h1, h2, h3⟩)
    ·exact ⟨0, r, by omega, by simp, h2⟩
    ·exact ⟨i + 1, q, by omega, by simpa using h2, h3⟩
  rw [step]
  split
  ·rename_i hp
   rw [List.mem_cons, ih]
   simp [hp]
  ·rename_i hp
   rw [ih]
   simp [hp]
theorem placesFrom_nodup (n : Int) (x : Sym) : ∀ (k : Nat) (rs : List Rule), (placesFrom n x k rs).Nodup
 | k, [] => by simp [placesFrom]
 | k, r :: rs => by
  rw [placesFrom]
  have ih := placesFrom_nodup n x (k + 1) rs
  split
  ·rw [List.nodup_cons]
   refine ⟨fun h => ?_, ih⟩
   obtain ⟨i, q, h1, _⟩ := (placesFrom_mem n x (k + 1) rs _).1 h
   omega
  ·exact ih
structure NxtL (g : Gram) (l : List Nat) (a : Int) (x : Sym) : Prop where
 ne : l ≠ []
 nodup : l.Nodup
 each : ∀ k ∈ l, ∃ q, g.rules[k]? = some q ∧ q.left = a ∧ q.right.head? = some x
theorem places_nxt {g : Gram} {n : Int} {x : Sym} (h : x ∈ firstsL n g.rules) : NxtL g (placesN g n x) n x := by
 refine ⟨fun e => placesL_ne h (by rw [places_nats, e]; rfl), placesFrom_nodup _ _ _ _, fun k hk => ?_⟩
 obtain ⟨i, q, h1, h2, h3⟩ := (placesFrom_mem n x 0 g.rules k).1 hk
 have e : k = i := by omega
 subst e
 unfold hasF at h3
 rw [Bool.and_eq_true, decide_eq_true_eq, decide_eq_true_eq] at h3
 exact ⟨q, h2, h3.1, h3.2⟩
def cmP (g : Gram) (l : List Nat) (p : Nat) : Nat := (l.take p).foldl (fun m k => min m (comL (rulN g (l.headD 0)).right (rulN g k).right)) (rulN g (l.headD 0)).right.length
def stepOf (g : Gram) (l : List Nat) : StepR := ⟨(cmP g l l.length : Nat), facHd l, facTo g l g.rules.length, facTail g l l.length⟩
def nextG (g : Gram) (l : List Nat) : Gram := facG g l (cmP g l l.length)
structure NextAt (g : Gram) (m : Nat) (x : Sym) : Prop where
 lt : (m : Int) < g.nons
 before : ∀ k : Nat, k < m → (firstsL (k : Int) g.rules).Nodup
 two : 2 ≤ (firstsL (m : Int) g.rules).count x
 least : ∀ y, 2 ≤ (firstsL (m : Int) g.rules).count y → ¬ symCmp y x < 0
def NoNext (g : Gram) : Prop := ∀ m : Nat, (m : Int) < g.nons → (firstsL (m : Int) g.rules).Nodup
theorem NextAt.mem {g : Gram} {m : Nat} {x : Sym} (h : NextAt g m x) : x ∈ firstsL (m : Int) g.rules := List.count_pos_iff.1 (by have := h.two; omega)
inductive FacRun (g : Gram) : List StepR → Gram → Prop where
 | nil : FacRun g [] g
 | snoc (ss : List StepR) (h : Gram) (m : Nat) (x : Sym) (hr : FacRun g ss h) (hn : h.nons < 10) (ha : NextAt h m x) (hc : checkI (nextG h (placesN h (m : Int) x)) = 0) : FacRun g (ss ++ [stepOf h (placesN h (m : Int) x)]) (nextG h (placesN h (m : Int) x))
inductive FacBad (g : Gram) : Int → Prop where
 | large (ss : List StepR) (h : Gram) (m : Nat) (x : Sym) (hr : FacRun g ss h) (hn : h.nons = 10) (ha : NextAt h m x) : FacBad g 2
 | chk (ss : List StepR) (h : Gram) (m : Nat) (x : Sym) (hr : FacRun g ss h) (hn : h.nons < 10) (ha : NextAt h m x) (hc : checkI (nextG h (placesN h (m : Int) x)) ≠ 0) : FacBad g (checkI (nextG h (placesN h (m : Int) x)))
theorem FacBad.ne {g : Gram} {k : Int} (h : FacBad g k) : k ≠ 0 := by
 cases h with
 | large => decide
 | chk _ _ _ _ _ _ _ h => exact h
theorem GrpIs.of {g : Gram} {n : Nat} {l : List Int} (hn : g.nons = (n : Int)) (h : GrpIs g n l) : (l = [] ∧ NoNext g) ∨ ∃ (m : Nat) (x : Sym), NextAt g m x ∧ l = natsI (placesN g (m : Int) x) := by
 rcases h with ⟨h1, h2⟩ | ⟨m, x, h1, h2, h3, h4, h5⟩
 ·exact .inl ⟨h1, fun m hm => h2 m (by omega)⟩
 ·exact .inr ⟨m, x, ⟨by omega, h2, h3, h4⟩, by rw [h5, places_nats]⟩
end Go.Proofs.Ytjdojogjogenkaa
/- Rows of ints that are known whole; contract: slices.Repeat of a row of one int. -/
namespace Go.Proofs.Ytjdojogjogenkaa
open Go.RowKit
set_option linter.unusedVariables false
set_option maxRecDepth 100000 in
set_option maxHeartbeats 1000000 in
theorem mul64_one (n : Nat) (hn : n ≤ 32) (w : World) : Calls Try.prog 91 #[.int .u64 1, .int .u64 (n : Int)] w fun e w' => e = .returned (.tuple #[.int .u64 0, .int .u64 (n : Int)]) ∧ w = w' := by
 have h : n = 0 ∨ n = 1 ∨ n = 2 ∨ n = 3 ∨ n = 4 ∨ n = 5 ∨ n = 6 ∨ n = 7 ∨ n = 8 ∨ n = 9 ∨ n = 10 ∨ n = 11 ∨ n = 12 ∨ n = 13 ∨ n = 14 ∨ n = 15 ∨ n = 16 ∨ n = 17 ∨ n = 18 ∨ n = 19 ∨ n = 20 ∨ n = 21 ∨ n = 22 ∨ n = 23 ∨ n = 24 ∨ n = 25 ∨ n = 26 ∨ n = 27 ∨ n = 28 ∨ n = 29 ∨ n = 30 ∨ n = 31 ∨ n = 32 := by omega
 rcases h with rfl | rfl | rfl | rfl | rfl | rfl | rfl | rfl | rfl | rfl | rfl | rfl | rfl | rfl | rfl | rfl | rfl | rfl | rfl | rfl | rfl | rfl | rfl | rfl | rfl | rfl | rfl | rfl | rfl | rfl | rfl | rfl | rfl
 all_goals
  go_enter Try.func91, Try.ntmps91
  go_wp2
  go_ret2
  exact ⟨rfl, rfl⟩
set_option maxRecDepth 100000 in
set_option maxHeartbeats 1000000 in
theorem mul_one (n : Nat) (hn : n ≤ 32) (w : World) : Calls Try.prog 78 #[.int .u64 1, .int .u64 (n : Int)] w fun e w' => e = .returned (.tuple #[.int .u64 0, .int .u64 (n : Int)]) ∧ w = w' := by
 go_enter Try.func78, Try.ntmps78
 go_wp2_with fail
 refine (mul64_one n hn _).mono ?_
 rintro e w' ⟨rfl, rfl⟩
 go_wp2
 go_ret2
 exact ⟨rfl, rfl⟩
def rl (n k : Nat) : List Int := List.replicate k (-1) ++ List.replicate (n - k) 0
def ivals (l : List Int) : List Value := l.map fun x => Value.int .i64 x
theorem icells_vals (l : List Int) : icells l = (ivals l).toArray := rfl
theorem rl_splice (n k m : Nat) (h : k + m ≤ n) : splice (ivals (rl n k)) k (ivals (List.replicate m (-1))) = ivals (rl n (k + m)) := by
 unfold splice rl ivals
 simp only [List.map_append, List.map_replicate, List.length_replicate]
 rw [List.take_append_of_le_length (by simp), List.take_of_length_le (by simp), List.drop_append, List.drop_of_length_le (by simp)]
 simp only [List.length_replicate, List.nil_append, List.drop_replicate]
 rw [show n - k - (k + m - k) = n - (k + m) from by omega, ← List.append_assoc, List.replicate_append_replicate]
theorem rl_full (n : Nat) : rl n n = List.replicate n (-1) := by simp [rl]
theorem rl_zero (n : Nat) : rl n 0 = List.replicate n 0 := by simp [rl]
def RepL (n g : Nat) (w : World) (i : Value) (wr : World) : Prop :=
 ∃ k : Nat, 1 ≤ k ∧ k ≤ n ∧ i = .int .i64 k ∧ Blk' wr g 3 (icells (rl n k)) ∧ Below w.heap.size w wr
set_option maxRecDepth 100000 in
set_option maxHeartbeats 1000000 in
theorem repeat_any (b o n : Nat) (w : World) (h1 : 1 ≤ n) (hn : n ≤ 32) (hc : w.cell? ⟨b, o, none⟩ = some (.int .i64 (-1))) :
  Calls Try.prog 64 #[.slice (some ⟨b, o, none⟩) 1 1, .int .i64 (n : Int)] w fun e w' =>
   ∃ g, e = .returned (.slice (some ⟨g, 0, none⟩) n n) ∧ Blk' w' g 3 (icells (List.replicate n (-1))) ∧ w.heap.size ≤ g ∧ Below w.heap.size w w' := by
 have hmk := mkInts n (by omega)
 have hn0 : (0 : Int) ≤ (n : Int) := by omega
 have hn1 : (n : Int) ≤ 32 := by omega
 have hbl : b < w.heap.size := World.block_lt_of_cell? w _ hc
 go_enter Try.func64, Try.ntmps64
 go_wp2_with fail
 refine (mul_one n hn _).mono ?_
 rintro e w' ⟨rfl, rfl⟩
 have hub := Try.underlying22
 have hsz : (Try.prog.info? 3).map (·.size) = some 1 := by kernel_rfl
 have HN := Lib.hid (Blk'.new w 3 (icells (List.replicate n 0)))
 have HS := Lib.hid (And.intro hub hsz)
 have HC := Lib.hid hc
 have HSp := Lib.hid (rl_splice n)
 clear hub hsz
 have HC2 : Hid (∀ (j : Nat) (v : Value), [Value.int .i64 (-1)][j]? = some v → (w.alloc (.cells (icells (List.replicate n 0)) 3)).cell? ((⟨b, o, none⟩ : Addr).add j) = some v) := Lib.hid (by
  intro j v hj
  match j, hj with
  | 0, hj =>
   simp at hj; subst hj
   have h := ((Below.refl w.heap.size w).alloc (Nat.le_refl _) (.cells (icells (List.replicate n 0)) 3)).cell (p := ⟨b, o, none⟩) hbl
   simpa [Addr.add] using h.trans HC.out)
 have HN0 : Hid ((w.alloc (.cells (icells (List.replicate n 0)) 3)).heap[w.heap.size]? = some (.cells (ivals (rl n 0)).toArray 3 (0, 0))) := Lib.hid (by rw [rl_zero]; exact HN.out)
 have HL : Hid ([Value.int .i64 (-1)].length = Nat.min 1 n) := Lib.hid (by show 1 = min 1 n; omega)
 have HF : Hid (0 + [Value.int .i64 (-1)].length ≤ (ivals (rl n 0)).length) := Lib.hid (by simp [ivals, rl]; omega)
 have H1c : Hid (∀ v ∈ [Value.int .i64 (-1)], v.oneCell' = true) := Lib.hid (by intro v hv; simp at hv; subst hv; rfl)
 have HB0 := Lib.hid ((Below.refl w.heap.size w).alloc (Nat.le_refl _) (.cells (icells (List.replicate n 0)) 3))
 go_wp2_with (refine wpList_copy_splice (o := ⟨some 33, _, _, _, _, _⟩) rfl _ _ 22 22 rfl 3 HS.out.1 HS.out.2 _ _ _ _ _ _ rfl rfl w.heap.size 0 (ivals (rl n 0)) 3 HN0.out [.int .i64 (-1)] HL.out (fun _ => ⟨rfl, _, rfl, HC2.out⟩) HF.out H1c.out w.heap.size w HB0.out (Nat.le_refl _) ?_; intro w2 hg2 hb2; have H2 := Lib.hid (And.intro hg2.out hb2); clear hg2 hb2)
 have HZ : Hid (splice (ivals (rl n 0)) 0 [Value.int .i64 (-1)] = ivals (rl n 1)) := Lib.hid (by have h := HSp.out 0 1 h1; simpa [ivals] using h)
 have HR : Hid (RepL n w.heap.size w (.int .i64 ((1 : Nat) : Int)) w2) := Lib.hid ⟨1, Nat.le_refl _, h1, rfl, by have h := H2.out.1; rw [HZ.out] at h; exact h, H2.out.2⟩
 have hc1 : w.cell? ⟨b, o, none⟩ = some (.int .i64 (-1)) := HC.out
 clear hc hc1 HN HN0 HC2 HB0 H2
 go_loopw [8] (fun i wr => RepL n w.heap.size w i wr) (fun i _ => n - (intOf i).toNat)
 case atStart => exact HR.out
 case round =>
  obtain ⟨wo, hwo⟩ : ∃ wo : World, wo = wr := ⟨_, rfl⟩
  subst hwo
  obtain ⟨k, hk1, hk2, rfl, hB, hb⟩ := hrel
  have HBk := Lib.hid hB
  have HBl := Lib.hid hb
  have hz := hb.size
  clear hB hb HR
  by_cases hlt : k < n
  ·have hkn : (k : Int) < (n : Int) := by omega
   have hk0 : (0 : Int) ≤ (k : Int) := by omega
   have hmin : min k (n - k) ≤ k ∧ min k (n - k) ≤ n - k ∧ 1 ≤ min k (n - k) := by omega
   obtain ⟨m, hm⟩ : ∃ m, m = min k (n - k) := ⟨_, rfl⟩
   rw [← hm] at hmin
   obtain ⟨X, hX⟩ : ∃ X, X = ivals (List.replicate m (-1)) := ⟨_, rfl⟩
   have HXl : Hid (X.length = Nat.min k (n - k)) := Lib.hid (by rw [hX]; simp only [ivals, List.length_map, List.length_replicate]; exact hm)
   have HXm : Hid (X.length = m) := Lib.hid (by rw [hX]; simp [ivals])
   have HXs : Hid (∀ (j : Nat) (v : Value), X[j]? = some v → wo.drew.cell? ((⟨w.heap.size, 0, none⟩ : Addr).add j) = some v) := Lib.hid (by
    intro j v hj
    have e : (⟨w.heap.size, 0, none⟩ : Addr).add j = ⟨w.heap.size, j, none⟩ := by unfold Addr.add; split <;> simp_all
    rw [e]
    have hjl : j < m := by have := (List.getElem?_eq_some_iff.1 hj).1; rw [HXm.out] at this; exact this
    have h2 := HBk.out.drew.cell j
    rw [hX] at hj
    simp only [ivals, List.getElem?_map, List.getElem?_replicate, if_pos hjl, Option.map_some] at hj
    rw [h2, ← hj]
    exact icells_get (by simp only [rl]; rw [List.getElem?_append_left (by simp; omega), List.getElem?_replicate, if_pos (by omega)]))
   have HXf : Hid (k + X.length ≤ (ivals (rl n k)).length) := Lib.hid (by rw [HXm.out]; simp [ivals, rl]; omega)
   have HX1 : Hid (∀ v ∈ X, v.oneCell' = true) := Lib.hid (by intro v hv; rw [hX] at hv; simp [ivals] at hv; rw [hv.2]; rfl)
   have HB0 : Hid (wo.drew.heap[w.heap.size]? = some (.cells (ivals (rl n k)).toArray 3 (0, 0))) := Lib.hid HBk.out
   have HBd : Hid (Below w.heap.size w wo.drew) := Lib.hid HBl.out.drew
   have HNx : Hid (splice (ivals (rl n k)) k X = ivals (rl n (k + m))) := Lib.hid (by rw [hX]; exact HSp.out k m (by omega))
   have hsum : IntKind.i64.wrap ((k : Int) + (m : Int)) = (k : Int) + (m : Int) := IntWalk.i64_in _ (by omega)
   obtain ⟨w2, hcp, hg2, hb2⟩ : ∃ w2, (Builtin.copy_ #[22, 22] 3 #[.slice (some ⟨w.heap.size, k, none⟩) (n - k) (n - k), .slice (some ⟨w.heap.size, 0, none⟩) k n]).run Try.prog wo.drew = .ok (.int .i64 (m : Int)) w2 ∧ Blk' w2 w.heap.size 3 (icells (rl n (k + m))) ∧ Below w.heap.size w w2 := by
    have hr := run_copy_row (P := Try.prog) (w := wo.drew) 22 22 3 3 w.heap.size k (n - k) (n - k) ⟨w.heap.size, 0, none⟩ k n (ivals (rl n k)).toArray 3 X HS.out.1 HS.out.2 HB0.out HXl.out HXs.out (by simpa using HXf.out) HX1.out
    refine ⟨_, by rw [hr, HXm.out]; rfl, ?_, below_setRow HBd.out (Nat.le_refl _) _⟩
    have h2 := setRow_heap wo.drew w.heap.size (ivals (rl n k)).toArray ((ivals (rl n k)).toArray.toList.take k ++ (X ++ (ivals (rl n k)).toArray.toList.drop (k + X.length))).toArray 3 (0, 0) HB0.out
    have h3 := HNx.out
    unfold splice at h3
    unfold Blk'
    rw [icells_vals, ← h3]
    simp only [List.append_assoc, HXm.out] at h2 ⊢
    exact h2
   have H2 := Lib.hid (And.intro hg2 hb2)
   clear hm hX hg2 hb2
   go_wp2_with fail
   go_region
   all_goals
    go_wp2
    go_roundw
    case rel => exact ⟨k + m, by omega, by omega, by go_num, H2.out.1, H2.out.2⟩
    case measure => simp [intOf]; omega
  ·have hkn : k = n := by omega
   subst hkn
   go_wp2
   go_ret
   exact ⟨_, rfl, by have h := HBk.out; rw [rl_full] at h; exact h, Nat.le_refl _, HBl.out⟩
end Go.Proofs.Ytjdojogjogenkaa
/- Contract: slices.Clone at symbols, the copy in a block of its own (out of XCopyB). -/
namespace Go.Proofs.Ytjdojogjogenkaa
open Go.RowKit
set_option linter.unusedVariables false
set_option maxRecDepth 100000 in
set_option maxHeartbeats 2000000 in
theorem cloneSymO_any (l : List Sym) (A : Option Addr) (c n : Nat) (S : Nat → Prop) (w : World) (hl : n = l.length) (hm : l.length ≤ 1000000) (hA : Els w S l A) (hS : ∀ b, S b → b < w.heap.size) :
  Calls Try.prog 43 #[.slice A n c] w fun e w' => ∃ (A' : Option Addr) (c' : Nat), e = .returned (.slice A' l.length c') ∧ n ≤ c' ∧ c' ≤ 9223372036854775807 ∧ Own w' (fun b => b < w.heap.size) w.heap.size 35 (.slice A' l.length c') l ∧ Below w.heap.size w w' := by
 subst hl
 have HA := Lib.hid hA
 have HS := Lib.hid hS
 have q22 : ∀ (w : World) (a : Option Addr) (n c n' c' : Nat), (binOp .eql 31 (.slice a n c) (.slice none n' c')).run Try.prog w = .ok (.bool a.isNone) w := fun w a n c n' c' => Lib.run_eql_slice_nil w _ _ a n c n' c' Try.underlying31
 clear hA hS
 cases A with
 | none =>
  have hl0 : l = [] := by
   cases l with
   | nil => rfl
   | cons x xs => obtain ⟨_, _, e, _⟩ := HA.out (by simp); simp at e
  subst hl0
  have hb := Lib.hid (Below.refl w.heap.size w)
  go_enter Try.func43, Try.ntmps43
  go_wp2
  go_ret
  exact ⟨none, 0, rfl, Nat.le_refl _, by omega, Own.nil _ _ _ _, hb.out⟩
 | some a =>
  have HB1 := Lib.hid ((Below.refl w.heap.size w).alloc (Nat.le_refl _) (.cells #[] 35))
  have HO := Lib.hid (Own.made (α := Sym) (w := w) (fun b => b < w.heap.size) (base := w.heap.size) (e := 35) (cur := #[]) (cap := 0) (Nat.le_refl _) (by omega) rfl)
  have HE := Lib.hid ((HA.out.below HB1.out).keep (S' := OwnT (fun b => b < w.heap.size) w.heap.size (.slice (some ⟨w.heap.size, 0, none⟩) 0 0) (w.alloc (.cells #[] 35))) (fun _ _ _ => rfl) (fun b hb => by
   have h1 := HS.out b hb
   exact ⟨.inl h1, by simp [Value.ownBlock]; omega, by simp; omega⟩))
  go_enter Try.func43, Try.ntmps43
  go_wp2_with (at_builtin; refine wpList_ownMany _ rfl _ _ elemSym rfl rfl HO.out l rfl rfl HE.out (by simp; omega) (by simp; omega) (by simp) ?_; intro v' w' hown' hg' _)
  obtain ⟨A', c', rfl, h1, h2, h3⟩ := hown'.form
  have HF := Lib.hid hown'
  have HBl := Lib.hid (bgrown HB1.out hg' HO.out (Nat.le_refl _) (by simp))
  have HN := Lib.hid (And.intro h1 h2)
  clear hown' hg' h1 h2 h3
  go_wp2
  go_ret
  exact ⟨A', c', by simp, by have := HN.out.1; simpa using this, HN.out.2, by have := HF.out; simpa using this, HBl.out⟩
end Go.Proofs.Ytjdojogjogenkaa
/- Contracts: slices.Index and slices.Contains at int. -/
namespace Go.Proofs.Ytjdojogjogenkaa
open Go.RowKit
set_option linter.unusedVariables false
set_option maxRecDepth 100000 in
theorem indexInt_any (A : Option Addr) (c : Nat) (xs : List Int) (z : Int) (S : Nat → Prop) (w : World) (hm : xs.length ≤ 9223372036854775807) (hA : Els w S xs A) :
  Calls Try.prog 48 #[.slice A xs.length c, .int .i64 z] w fun e w' => e = .returned (.int .i64 (idxI (fun x => z == x) xs)) ∧ w = w' := by
 go_enter Try.func48, Try.ntmps48
 go_wp2
 go_loop [8] (fun i => ∃ k : Nat, k ≤ xs.length ∧ i = .int .i64 k ∧ (∀ y ∈ xs.take k, (z == y) = false)) (fun i => xs.length - (intOf i).toNat)
 case atStart => exact ⟨0, Nat.zero_le _, rfl, by simp⟩
 case round =>
  obtain ⟨k, hk, rfl, hno⟩ := hrel
  have HN := Lib.hid hno
  clear hno
  by_cases hlt : k < xs.length
  ·obtain ⟨x, hx⟩ := get_some hlt
   obtain ⟨b, o, rfl, _, hbs, hi, hc0⟩ := hA.int hx
   have HX := Lib.hid hx
   clear hx
   have hk0 : (0 : Int) ≤ (k : Int) := by omega
   have hk1 : (k : Int) < (xs.length : Int) := by omega
   cases hp : (z == x)
   ·go_wp2
    go_round
    case rel => exact ⟨k + 1, by omega, by go_num, by
     rw [take_snoc HX.out]
     intro y hy
     rcases List.mem_append.1 hy with h | h
     ·exact HN.out y h
     ·simp at h; subst h; exact hp⟩
    case measure => simp [intOf]; omega
   ·have E0 := Lib.hid (idxI_hit (p := fun x => z == x) HX.out hp HN.out)
    go_wp2
    go_ret
    exact ⟨ret_int E0.out.symm, rfl⟩
  ·have E0 := Lib.hid (show idxI (fun x => z == x) xs = -1 from idxI_none (by have h := HN.out; rwa [List.take_of_length_le (by omega)] at h))
   go_wp2
   go_ret
   exact ⟨ret_int E0.out.symm, rfl⟩
theorem any_eq_mem (xs : List Int) (z : Int) : xs.any (fun x => z == x) = decide (z ∈ xs) := by
 rw [Bool.eq_iff_iff]; simp [List.any_eq_true]
theorem containsInt_any (A : Option Addr) (n c : Nat) (xs : List Int) (z : Int) (S : Nat → Prop) (w : World) (hn : n = xs.length) (hm : xs.length ≤ 9223372036854775807) (hA : Els w S xs A) :
  Calls Try.prog 65 #[.slice A n c, .int .i64 z] w fun e w' => e = .returned (.bool (decide (z ∈ xs))) ∧ w = w' := by
 subst hn
 have HA := Lib.hid hA
 clear hA
 go_enter Try.func65, Try.ntmps65
 go_wp2_with fail
 refine (indexInt_any A c xs z S _ hm HA.out).mono ?_
 rintro e w1 ⟨rfl, rfl⟩
 go_wp2
 go_ret
 exact ⟨ret_bool ((idxI_nonneg _ _).trans (any_eq_mem xs z)), rfl⟩
end Go.Proofs.Ytjdojogjogenkaa
/- gram.T and gram.N and their kin: a symbol is returned. -/
namespace Go.Proofs.Ytjdojogjogenkaa
open Go.RowKit
set_option linter.unusedVariables false
theorem n_any (n : Int) (w : World) : Calls Try.prog 39 #[.int .i64 n] w fun e w' => e = .returned (.agg #[.bool false, .int .i64 n]) ∧ Below w.heap.size w w' := by
 go_enter Try.func39, Try.ntmps39
 go_wp2
 exact bodyPost_ret (v := .agg #[.bool false, .int .i64 n]) (by simp [results, Try.results39, go_sem]) rfl ⟨rfl, (Below.refl _ _).alloc (Nat.le_refl _) _⟩
end Go.Proofs.Ytjdojogjogenkaa
/- Contract: parlkeep2.term. -/
namespace Go.Proofs.Ytjdojogjogenkaa
open Go.RowKit
set_option linter.unusedVariables false
theorem keepT_any (n : Int) (w : World) : Calls Try.prog 23 #[.int .i64 n] w fun e w' => e = .returned (.agg #[.bool true, .int .i64 n]) ∧ w' = w.alloc (.cells #[.bool true, .int .i64 n] 35) := by
 go_enter Try.func23, Try.ntmps23
 go_wp2
 exact bodyPost_ret (v := .agg #[.bool true, .int .i64 n]) (by simp [results, Try.results23, go_sem]) rfl ⟨rfl, rfl⟩
end Go.Proofs.Ytjdojogjogenkaa
/- Contracts: parlmake's Below and the stream's next. -/
namespace Go.Proofs.Ytjdojogjogenkaa
open Go.RowKit
set_option linter.unusedVariables false
def RetBelow (n : Int) (w : World) (e : Ending) (w' : World) : Prop := ∃ r : Int, 0 ≤ r ∧ r < n ∧ e = .returned (.int .i64 r) ∧ w = w'
theorem below_any (x n : Int) (w : World) (hx : I64 x) (hn : 1 ≤ n) (hn' : n ≤ 1000000000) : Calls Try.prog 15 #[.int .i64 x, .int .i64 n] w (RetBelow n w) := by
 have h1 : x.tmod n < n := Int.tmod_lt_of_pos x (by omega)
 have h2 : -n < x.tmod n := by
  have := Int.lt_tmod_of_pos x (b := n) (by omega)
  omega
 have HH := Lib.hid (And.intro h1 h2)
 have hn0 : (n == 0) = false := by simp; omega
 have hw : IntKind.i64.wrap (x.tmod n) = x.tmod n := IntWalk.i64_in _ (by omega)
 have Hn' := Lib.hid hn'
 clear hn' h1 h2
 by_cases h0 : x.tmod n < 0
 ·have ha : IntKind.i64.wrap (x.tmod n + n) = x.tmod n + n := IntWalk.i64_in _ (by have := HH.out; have := Hn'.out; omega)
  go_enter Try.func15, Try.ntmps15
  go_wp2
  go_ret
  exact ⟨x.tmod n + n, by have := HH.out; omega, by omega, rfl, rfl⟩
 ·go_enter Try.func15, Try.ntmps15
  go_wp2
  go_ret
  exact ⟨x.tmod n, by omega, by have := HH.out; omega, rfl, rfl⟩
theorem Els.cut {α : Type} [Dat α] {w : World} {S : Nat → Prop} {xs : List α} {A : Option Addr} {c k : Nat} (h : Els w S xs A) (hl : xs.length ≤ c) :
  Els w S (xs.drop k) (if c = k then A else A.map (·.add (k * Dat.size α))) := by
 intro hne
 have hlt : k < xs.length := by
  rcases Nat.lt_or_ge k xs.length with h1 | h1
  ·exact h1
  ·exact absurd (List.drop_of_length_le h1) hne
 obtain ⟨b, o, rfl, hb, hx⟩ := h (by rintro rfl; simp at hlt)
 rw [if_neg (by omega)]
 refine ⟨b, o + k * Dat.size α, ?_, hb, fun i x hi => ?_⟩
 ·simp only [Option.map_some]
  congr 1
  unfold Addr.add; split <;> simp_all
 ·rw [List.getElem?_drop] at hi
  obtain ⟨cs, h1, h2⟩ := hx _ x hi
  exact ⟨cs, h1, by rw [show o + k * Dat.size α + i * Dat.size α = o + (k + i) * Dat.size α from by rw [Nat.add_mul]; omega]; exact h2⟩
def StreamAt (S : Nat → Prop) (w : World) (g : Nat) : Prop :=
 ∃ (xs : List Int) (A : Option Addr) (c : Nat), w.cell? ⟨g, 0, none⟩ = some (.slice A xs.length c) ∧ w.frozen? ⟨g, 0, none⟩ = false ∧ xs.length ≤ c ∧ c ≤ 9223372036854775807 ∧ Els w S xs A
theorem StreamAt.keep {S : Nat → Prop} {w w' : World} {g : Nat} (h : StreamAt S w g) (hg : ∀ i, w'.cell? ⟨g, i, none⟩ = w.cell? ⟨g, i, none⟩) (hf : ∀ i, w'.frozen? ⟨g, i, none⟩ = w.frozen? ⟨g, i, none⟩)
  (hk : ∀ p : Addr, S p.block → p.block < w.heap.size → w'.cell? p = w.cell? p) : StreamAt S w' g := by
 obtain ⟨xs, A, c, h1, h2, h3, h4, h5⟩ := h
 exact ⟨xs, A, c, (hg 0).trans h1, (hf 0).trans h2, h3, h4, h5.keep hk (fun _ h => h)⟩
theorem StreamAt.below {S : Nat → Prop} {w w' : World} {g B : Nat} (h : StreamAt S w g) (hb : Below B w w') (hB : w.heap.size ≤ B) : StreamAt S w' g := by
 have hl : g < w.heap.size := by obtain ⟨xs, A, c, h1, _⟩ := h; exact World.block_lt_of_cell? w _ h1
 exact h.keep (fun i => hb.cell (p := ⟨g, i, none⟩) (by show g < B; omega)) (fun i => hb.frozen (p := ⟨g, i, none⟩) (by show g < B; omega)) (fun p _ hp => hb.cell (by omega))
theorem StreamAt.alloc {S : Nat → Prop} {w : World} {g : Nat} (h : StreamAt S w g) (o : Obj) (_ : True) : StreamAt S (w.alloc o) g := h.below ((Below.refl _ _).alloc (Nat.le_refl _) o) (Nat.le_refl _)
theorem StreamAt.grown {S : Nat → Prop} {w w' : World} {g : Nat} {row : Option Nat} (h : StreamAt S w g) (hb : w.grownBy w' row) (hg : some g ≠ row) (hS : ∀ k, row = some k → ¬ S k) : StreamAt S w' g := by
 have hl : g < w.heap.size := by obtain ⟨xs, A, c, h1, _⟩ := h; exact World.block_lt_of_cell? w _ h1
 have hk := hb.block g hl hg
 exact h.keep (fun i => World.cell?_of_block (a := ⟨g, i, none⟩) hk) (fun i => World.frozen?_of_block (a := ⟨g, i, none⟩) hk) (fun p hp hlt => World.cell?_of_block (hb.block p.block hlt (fun e => hS _ e.symm hp)))
theorem StreamAt.setCell {S : Nat → Prop} {w : World} {g : Nat} (h : StreamAt S w g) {p : Addr} (hp : g ≠ p.block) (hS : ¬ S p.block) (u : Value) : StreamAt S (w.setCell p u) g :=
 h.grown (row := some p.block) ⟨rfl, rfl, rfl, by simp [World.setCell], fun k _ hk => Below.heap_setCell _ _ _ _ (fun e => hk (by rw [e]))⟩ (fun e => hp (by injection e)) (fun k hk => by injection hk with hk; rw [← hk]; exact hS)
def RetNext (S : Nat → Prop) (g : Nat) (n : Int) (w : World) (e : Ending) (w' : World) : Prop :=
 ∃ r : Int, 0 ≤ r ∧ r < n ∧ e = .returned (.int .i64 r) ∧ StreamAt S w' g ∧ w.grownBy w' (some g)
set_option maxRecDepth 100000 in
theorem next_any (S : Nat → Prop) (g : Nat) (n : Int) (w : World) (hn : 1 ≤ n) (hn' : n ≤ 1000000000) (hS : ¬ S g) (h : StreamAt S w g) :
  Calls Try.prog 21 #[.pointer (some ⟨g, 0, none⟩), .int .i64 n] w (RetNext S g n w) := by
 obtain ⟨xs, A, c, hc, hf, h1, h2, hA⟩ := h
 have HA := Lib.hid hA
 have Hn' := Lib.hid hn'
 clear hn' hA
 cases xs with
 | nil =>
  simp only [List.length_nil] at hc
  go_enter Try.func21, Try.ntmps21
  go_wp2_with fail
  go_ret
  exact ⟨0, by omega, by omega, rfl, ⟨[], A, c, hc, hf, h1, h2, HA.out⟩, World.grownBy.refl w _⟩
 | cons x xs =>
  simp only [List.length_cons] at hc h1
  obtain ⟨b, o, rfl, hb, hbs, hi, hcell⟩ := HA.out.int (k := 0) rfl
  simp only [Nat.add_zero] at hcell
  have hne : ((xs.length : Int) + 1 == 0) = false := by simp; omega
  have hne' : (0 : Int) < (xs.length : Int) + 1 := by omega
  have hc1 : (1 : Int) ≤ (c : Int) := by omega
  have hc2 : (xs.length : Int) + 1 ≤ (c : Int) := by omega
  have hgl : g < w.heap.size := World.block_lt_of_cell? w _ hc
  have hgr : ∀ u, w.grownBy (w.setCell ⟨g, 0, none⟩ u) (some g) := fun u => ⟨rfl, rfl, rfl, by simp [World.setCell], fun k hk hne => Below.heap_setCell _ _ _ _ (fun e => hne (by rw [e]))⟩
  have hst : ∀ (A' : Option Addr) (c' : Nat), xs.length ≤ c' → c' ≤ 9223372036854775807 → Els w S xs A' → StreamAt S (w.setCell ⟨g, 0, none⟩ (.slice A' xs.length c')) g := fun A' c' q1 q2 q3 =>
   ⟨xs, A', c', World.cell?_setCell_same _ _ _ hc, by rw [World.frozen?_setCell]; exact hf, q1, q2, q3.keep (fun p hp _ => World.cell?_setCell_other _ _ _ _ (fun e => hS (by rw [← e] at hp; exact hp))) (fun _ h => h)⟩
  have Hst := Lib.hid hst
  have Hgr := Lib.hid hgr
  clear hst hgr
  have hcut := HA.out.cut (k := 1) (c := c) (by simpa using h1)
  have Hcut := Lib.hid hcut
  clear hcut
  by_cases hc0 : c = 1
  ·subst hc0
   obtain rfl : xs = [] := List.eq_nil_of_length_eq_zero (by omega)
   simp only [List.length_nil, Nat.zero_add] at hc
   clear hne hne' hc1 hc2
   go_enter Try.func21, Try.ntmps21
   go_wp2_with fail
   refine (below_any x n _ hi hn Hn'.out).mono ?_
   rintro e w1 ⟨r, hr0, hr1, rfl, rfl⟩
   go_wp2
   go_ret
   exact ⟨r, hr0, hr1, rfl, Hst.out (some ⟨b, o, none⟩) 0 (by simp) (by omega) (fun h => absurd rfl h), Hgr.out _⟩
  ·have Hc0 := Lib.hid hc0
   go_enter Try.func21, Try.ntmps21
   go_wp2_with fail
   refine (below_any x n _ hi hn Hn'.out).mono ?_
   rintro e w1 ⟨r, hr0, hr1, rfl, rfl⟩
   go_wp2
   go_ret
   have he : Els w S xs (some ⟨b, o + 1, none⟩) := by have h := Hcut.out; rwa [if_neg Hc0.out] at h
   exact ⟨r, hr0, hr1, rfl, Hst.out (some ⟨b, o + 1, none⟩) (c - 1) (by omega) (by omega) he, Hgr.out _⟩
end Go.Proofs.Ytjdojogjogenkaa
/- Contract: parlmake.has: is the rule among the rules? -/
namespace Go.Proofs.Ytjdojogjogenkaa
open Go.RowKit
set_option linter.unusedVariables false
def HasR (rs : List Rule) (r : Rule) (A' : Option Addr) (c' : Nat) (w : World) (i : Value) (wr : World) : Prop :=
 ∃ k : Nat, k ≤ rs.length ∧ i = .int .i64 k ∧ r ∉ rs.take k ∧ Below w.heap.size w wr ∧ w.heap.size + 1 ≤ wr.heap.size ∧ wr.cell? ⟨w.heap.size, 0, none⟩ = some (.int .i64 r.left) ∧ wr.cell? ⟨w.heap.size, 1, none⟩ = some (.slice A' r.right.length c')
def HasI (xs ys : List Sym) (W : World) (s i : Value) (wr : World) : Prop :=
 ∃ m : Nat, m ≤ xs.length ∧ i = .int .i64 m ∧ s = .bool (decide (xs.take m = ys.take m)) ∧ Below W.heap.size W wr
theorem snoc_dec (a b : List Sym) (s t : Sym) : decide (a ++ [s] = b ++ [t]) = (decide (a = b) && decide (s = t)) := by
 rw [← Bool.decide_and]
 congr 1
 refine propext ⟨fun h => ?_, fun h => by rw [h.1, h.2]⟩
 obtain ⟨h1, h2⟩ := List.append_inj' h rfl
 exact ⟨h1, by simpa using h2⟩
theorem notin_snoc {rs : List Rule} {r x : Rule} {k : Nat} (h : r ∉ rs.take k) (hx : rs[k]? = some x) (hne : r ≠ x) : r ∉ rs.take (k + 1) := by
 rw [take_snoc hx]
 simp [h, hne]
set_option maxRecDepth 100000 in
set_option maxHeartbeats 1000000 in
theorem has_any (A A' : Option Addr) (c c' : Nat) (rs : List Rule) (r : Rule) (S : Nat → Prop) (w : World) (hm : rs.length ≤ 9223372036854775807) (hm' : r.right.length ≤ 9223372036854775807) (hA : Els w S rs A) (hA' : Els w S r.right A') :
  Calls Try.prog 22 #[.slice A rs.length c, .agg #[.int .i64 r.left, .slice A' r.right.length c']] w
   fun e w' => e = .returned (.bool (decide (r ∈ rs))) ∧ Below w.heap.size w w' := by
 obtain ⟨rl, rr⟩ := r
 dsimp only at *
 go_enter Try.func22, Try.ntmps22
 go_wp2
 go_loopw [11] (fun i wr => HasR rs ⟨rl, rr⟩ A' c' w i wr) (fun i _ => rs.length - (intOf i).toNat)
 case atStart => exact ⟨0, Nat.zero_le _, rfl, by simp, (Below.refl _ _).alloc (Nat.le_refl _) _, by simp, by go_simp, by go_simp⟩
 case round =>
  obtain ⟨wo, hwo⟩ : ∃ wo : World, wo = wr := ⟨_, rfl⟩
  subst hwo
  obtain ⟨k, hk, rfl, hnot, hb, hsz, hb0, hb1⟩ := hrel
  dsimp only at hb0 hb1
  have Hnot := Lib.hid hnot
  have Hb := Lib.hid hb
  have HE' := Lib.hid (hA'.below hb)
  have HE := Lib.hid (hA.below hb)
  clear hnot hb hA hA'
  have z1 : w.heap.size < wo.heap.size := by omega
  have z2 : w.heap.size < wo.heap.size + 1 := by omega
  by_cases hlt : k < rs.length
  ·obtain ⟨x, hx⟩ := get_some hlt
   obtain ⟨b, o, Ax, cx, rfl, _, hbs, hi, hxc, hcx, hEx, hc0, hc1⟩ := HE.out.rule hx
   have HEx := Lib.hid hEx
   have Hx := Lib.hid hx
   clear hx hEx
   obtain ⟨xl, xr⟩ := x
   dsimp only at *
   have hxm : xr.length ≤ 9223372036854775807 := by omega
   have next : (⟨rl, rr⟩ : Rule) ≠ ⟨xl, xr⟩ → ∀ W', Below wo.heap.size wo W' → HasR rs ⟨rl, rr⟩ A' c' w (.int .i64 ((k : Int) + 1)) W' := fun hne W' hW =>
    ⟨k + 1, by omega, by go_num, notin_snoc Hnot.out Hx.out hne, bthen Hb.out hW Hb.out.size, Nat.le_trans hsz hW.size, ((bcell hW).1 _ _ z1).trans hb0, ((bcell hW).1 _ _ z1).trans hb1⟩
   have Next := Lib.hid next
   clear next
   by_cases hl : xl = rl
   ·subst hl
    by_cases hn : xr.length = rr.length
    ·have hn' : ((xr.length : Int) != (rr.length : Int)) = false := by simp; omega
     have Hn := Lib.hid hn
     clear hn
     go_wp2
     go_loopw [7, 32] (fun s i wr => HasI xr rr (wo.alloc (.cells #[.int .i64 xl, .slice Ax xr.length cx] 33)) s i wr) (fun _ i _ => xr.length - (intOf i).toNat)
     case atStart => exact ⟨0, Nat.zero_le _, rfl, by simp, Below.refl _ _⟩
     case round =>
      obtain ⟨m, hm, rfl, rfl, hbm⟩ := hrel
      obtain ⟨hcm, _⟩ := bcell hbm
      have p0 := hcm wo.heap.size 0 (by simp)
      have p1 := hcm wo.heap.size 1 (by simp)
      have p2 := hcm w.heap.size 1 (by simp; omega)
      have p3 := hcm w.heap.size 0 (by simp; omega)
      simp only [World.cell?_alloc_lt _ _ ⟨w.heap.size, 1, none⟩ z1, World.cell?_alloc_lt _ _ ⟨w.heap.size, 0, none⟩ z1, hb0, hb1, World.cell?_alloc_new] at p0 p1 p2 p3
      simp at p0 p1
      have Hbm := Lib.hid hbm
      have hba : Below wo.heap.size wo (wo.alloc (.cells #[.int .i64 xl, .slice Ax xr.length cx] 33)) := (Below.refl _ _).alloc (Nat.le_refl _) _
      have HEm := Lib.hid (((HEx.out).below hba).below hbm)
      have HEm' := Lib.hid (((HE'.out).below hba).below hbm)
      clear hcm hbm hba
      by_cases hml : m < xr.length
      ·obtain ⟨s, hs⟩ := get_some hml
       obtain ⟨s', hs'⟩ := get_some (show m < rr.length by have := Hn.out; omega)
       obtain ⟨bs, os, rfl, _, hbs1, _, hs0, hs1⟩ := HEm.out.sym hs
       obtain ⟨bs', os', rfl, _, hbs2, _, hs2, hs3⟩ := HEm'.out.sym hs'
       have Ht := Lib.hid (take_snoc hs)
       have Ht' := Lib.hid (take_snoc hs')
       clear hs hs'
       obtain ⟨st, sn⟩ := s
       obtain ⟨st', sn'⟩ := s'
       dsimp only at *
       have hm0 : (0 : Int) ≤ (m : Int) := by omega
       have hm1 : (m : Int) < (xr.length : Int) := by omega
       have hm2 : (m : Int) < (rr.length : Int) := by have := Hn.out; omega
       have fin : ∀ (b : Bool), b = (decide (xr.take m = rr.take m) && decide ((⟨st, sn⟩ : Sym) = ⟨st', sn'⟩)) → ∀ nq, HasI xr rr (wo.alloc (.cells #[.int .i64 xl, .slice (some ⟨bs, os, none⟩) xr.length cx] 33)) (.bool b) (.int .i64 ((m : Int) + 1)) (wr.drewN nq) := fun b hb nq =>
        ⟨m + 1, by omega, by go_num, by rw [hb, Ht.out, Ht'.out, snoc_dec], bdrewN Hbm.out⟩
       have Fin := Lib.hid fin
       clear fin
       cases hd : decide (xr.take m = rr.take m)
       ·go_wp2
        go_quiet (fail)
        go_wp2
        go_roundw
        case rel => exact Fin.out _ (by rw [hd]; rfl) _
        case measure => simp [intOf]; omega
       ·by_cases he : (⟨st, sn⟩ : Sym) = ⟨st', sn'⟩
        ·injection he with h1 h2
         subst h1; subst h2
         go_wp2
         go_quiet (fail)
         go_wp2
         go_roundw
         case rel => exact Fin.out _ (by rw [hd]; simp) _
         case measure => simp [intOf]; omega
        ·have Hd := Lib.hid (show decide ((⟨st, sn⟩ : Sym) = ⟨st', sn'⟩) = false by simpa using he)
         have Hne := Lib.hid he
         clear he
         by_cases htt : st = st'
         ·subst htt
          have hzz : (sn == sn') = false := by simp; rintro rfl; exact Hne.out rfl
          go_wp2
          go_quiet (fail)
          go_wp2
          go_roundw
          case rel => exact Fin.out _ (by rw [Hd.out]; simp) _
          case measure => simp [intOf]; omega
         ·have htb : (st == st') = false := by simpa using htt
          clear htt
          go_wp2
          go_quiet (fail)
          go_wp2
          go_roundw
          case rel => exact Fin.out _ (by rw [Hd.out]; simp) _
          case measure => simp [intOf]; omega
      ·have hmx : m = xr.length := by omega
       subst hmx
       have htk : decide (xr.take xr.length = rr.take xr.length) = decide (xr = rr) := by rw [List.take_length, Hn.out, List.take_length]
       rw [htk]
       clear htk p0 p1 p2 p3
       by_cases he : xr = rr
       ·have E0 := Lib.hid (show decide ((⟨xl, rr⟩ : Rule) ∈ rs) = true by rw [decide_eq_true_eq, ← he]; exact List.mem_of_getElem? Hx.out)
        have hd : decide (xr = rr) = true := by simpa using he
        rw [hd]
        clear hd he
        go_wp2
        go_ret
        exact ⟨ret_bool E0.out.symm, bthen (Hb.out.alloc Hb.out.size _) Hbm.out (by simp; omega)⟩
       ·have hd : decide (xr = rr) = false := by simpa using he
        have He := Lib.hid he
        rw [hd]
        clear hd he
        go_wp2
        go_roundw
        case rel => exact Next.out (fun e => He.out (by injection e with _ e2; exact e2.symm)) _ (bthen ((Below.refl _ _).alloc (Nat.le_refl _) _) Hbm.out (by simp))
        case measure => simp [intOf]; omega
    ·have hn' : ((xr.length : Int) != (rr.length : Int)) = true := by simp; omega
     have Hn := Lib.hid hn
     clear hn
     go_wp2
     go_roundw
     case rel => exact Next.out (fun e => Hn.out (by injection e with _ e2; rw [e2])) _ ((Below.refl _ _).alloc (Nat.le_refl _) _)
     case measure => simp [intOf]; omega
   ·have hl' : (xl != rl) = true := by simpa using hl
    have Hl := Lib.hid hl
    clear hl
    go_wp2
    go_roundw
    case rel => exact Next.out (fun e => Hl.out (by injection e with e1 _; exact e1.symm)) _ ((Below.refl _ _).alloc (Nat.le_refl _) _)
    case measure => simp [intOf]; omega
  ·have e0 : decide ((⟨rl, rr⟩ : Rule) ∈ rs) = false := by
    have h := Hnot.out
    rw [List.take_of_length_le (by omega)] at h
    simpa using h
   have E0 := Lib.hid e0
   clear e0
   go_wp2
   go_ret
   exact ⟨ret_bool E0.out.symm, Hb.out⟩
end Go.Proofs.Ytjdojogjogenkaa
/- The comparisons answer zero just at equal things. No program is named here. -/
namespace Go.Proofs.Ytjdojogjogenkaa
theorem cmpI_zero {a b : Int} : cmpI a b = 0 ↔ a = b := by unfold cmpI; split <;> (try split) <;> omega
theorem symCmp_zero {a b : Sym} : symCmp a b = 0 ↔ a = b := by
 obtain ⟨t, n⟩ := a
 obtain ⟨t', n'⟩ := b
 unfold symCmp
 by_cases h : t = t'
 ·subst h; simp [cmpI_zero]
 ·simp only [if_neg h]
  constructor
  ·intro e; split at e <;> cases e
  ·intro e; injection e with e1 _; exact absurd e1 h
theorem symsCmp_zero : ∀ {a b : List Sym}, symsCmp a b = 0 ↔ a = b
 | [], [] => by simp [symsCmp]
 | [], _ :: _ => by simp [symsCmp]
 | _ :: _, [] => by simp [symsCmp]
 | x :: xs, y :: ys => by
  unfold symsCmp
  by_cases h : symCmp x y = 0
  ·rw [if_pos h, symsCmp_zero]
   have := symCmp_zero.1 h
   subst this; simp
  ·rw [if_neg h]
   constructor
   ·intro e; exact absurd e h
   ·intro e; injection e with e1 _; exact absurd (symCmp_zero.2 e1) h
theorem ruleCmp_zero {a b : Rule} : ruleCmp a b = 0 ↔ a = b := by
 obtain ⟨l, r⟩ := a
 obtain ⟨l', r'⟩ := b
 unfold ruleCmp orI orI orI
 by_cases h : cmpI l l' = 0
 ·simp only [h, if_true]
  have := cmpI_zero.1 h
  subst this
  by_cases h2 : symsCmp r r' = 0
  ·have e := symsCmp_zero.1 h2
   subst e
   simp [h2]
  ·simp only [if_neg h2]
   constructor
   ·intro e; exact absurd e h2
   ·intro e; injection e with _ e2; exact absurd (symsCmp_zero.2 e2) h2
 ·simp only [if_neg h]
  constructor
  ·intro e; exact absurd e h
  ·intro e; injection e with e1 _; exact absurd (cmpI_zero.2 e1) h
end Go.Proofs.Ytjdojogjogenkaa
