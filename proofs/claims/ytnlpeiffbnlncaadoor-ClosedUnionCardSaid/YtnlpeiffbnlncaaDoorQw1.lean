/- Contracts of this proof, of several texts joined: CloneKey, Tz, Cmp, IdxSym, IdxRule, IdxInt, Word, SymMk, StabSwap, StabRot, CmpInts. -/
import Derived.Test.YtnlpeiffbnlncaaDoorQp1
import Derived.Lib.SliceRun
import Derived.Deep.Cut
import Derived.Test.YtnlpeiffbnlncaaDoorChecked
import Derived.Lib.TrailingZeros
import Derived.Lib.LaidTab
import Derived.Laws.BitsAllLaws
import Derived.Deep.QuietTactic
import Derived.BigQuiet
import Derived.Test.YtnlpeiffbnlncaaDoorQp2
/- Contract: slices.Clone at nodes of a forest. -/
namespace Go.Proofs.YtnlpeiffbnlncaaDoor
open Go.RowKit
set_option linter.unusedVariables false

theorem Own.keyS {w : World} {S S' : Nat → Prop} {base : Nat} {e : TypeId} {v : Value} {xs : List NKey} (h : Own w S base e v xs) : Own w S' base e v xs := by
  obtain ⟨css, h1, h2, h3⟩ := h
  exact ⟨css, h1, h2, fun i x cs hi hc => h3 i x cs hi hc⟩
set_option maxRecDepth 100000 in
set_option maxHeartbeats 2000000 in
theorem cloneKey_any (l : List NKey) (A : Option Addr) (c n : Nat) (S : Nat → Prop) (w : World) (hl : n = l.length) (hm : l.length ≤ 1000000) (hA : Els w S l A) (hS : ∀ b, S b → b < w.heap.size) :
    Calls Tryd.prog 121 #[.slice A n c] w fun e w' => ∃ (A' : Option Addr) (c' : Nat), e = .returned (.slice A' l.length c') ∧ n ≤ c' ∧ c' ≤ 9223372036854775807 ∧ Own w' (fun _ => False) w.heap.size 160 (.slice A' l.length c') l ∧ Below w.heap.size w w' := by
  subst hl
  have HA := Lib.hid hA
  have HS := Lib.hid hS
  have q22 : ∀ (w : World) (a : Option Addr) (n c n' c' : Nat), (binOp .eql 164 (.slice a n c) (.slice none n' c')).run Tryd.prog w = .ok (.bool a.isNone) w := fun w a n c n' c' => Lib.run_eql_slice_nil w _ _ a n c n' c' Tryd.underlying164
  clear hA hS
  cases A with
  | none =>
    have hl0 : l = [] := by
      cases l with
      | nil => rfl
      | cons x xs => obtain ⟨_, _, e, _⟩ := HA.out (by simp); simp at e
    subst hl0
    have hb := Lib.hid (Below.refl w.heap.size w)
    go_enter Tryd.func121, Tryd.ntmps121
    go_wp2
    go_ret
    exact ⟨none, 0, rfl, Nat.le_refl _, by omega, Own.nil _ _ _ _, hb.out⟩
  | some a =>
    have HB1 := Lib.hid ((Below.refl w.heap.size w).alloc (Nat.le_refl _) (.cells #[] 160))
    have HO := Lib.hid (Own.made (α := NKey) (w := w) (fun b => b < w.heap.size) (base := w.heap.size) (e := 160) (cur := #[]) (cap := 0) (Nat.le_refl _) (by omega) rfl)
    have HE := Lib.hid ((HA.out.below HB1.out).keep (S' := OwnT (fun b => b < w.heap.size) w.heap.size (.slice (some ⟨w.heap.size, 0, none⟩) 0 0) (w.alloc (.cells #[] 160))) (fun _ _ _ => rfl) (fun b hb => by
      have h1 := HS.out b hb
      exact ⟨.inl h1, by simp [Value.ownBlock]; omega, by simp; omega⟩))
    go_enter Tryd.func121, Tryd.ntmps121
    go_wp2_with (at_builtin; refine wpList_ownMany _ rfl _ _ elemNKey rfl rfl HO.out l rfl rfl HE.out (by simp; omega) (by simp; omega) (by simp) ?_; intro v' w' hown' hg' _)
    obtain ⟨A', c', rfl, h1, h2, h3⟩ := hown'.form
    have HF := Lib.hid hown'
    have HBl := Lib.hid (bgrown HB1.out hg' HO.out (Nat.le_refl _) (by simp))
    have HN := Lib.hid (And.intro h1 h2)
    clear hown' hg' h1 h2 h3
    go_wp2
    go_ret
    exact ⟨A', c', by simp, by have := HN.out.1; simpa using this, HN.out.2, (by have := HF.out; simpa using this : Own _ _ _ _ _ l).keyS, HBl.out⟩
end Go.Proofs.YtnlpeiffbnlncaaDoor

/- Contract: math/bits.TrailingZeros32, of the table that is laid. -/
namespace Go.Proofs.YtnlpeiffbnlncaaDoor
open Go.RowKit
set_option linter.unusedVariables false

/-- The table in its variable. -/
def Tab32 (w : World) : Prop := 0 < w.heap.size ∧ ∀ j, j < 32 → w.cell? ⟨0, j, none⟩ = some (.int .u8 ((Lib.deBruijn32tab.getD j 0 : Nat) : Int))
theorem Tab32.below {w w' : World} {B : Nat} (h : Tab32 w) (hb : Below B w w') (hB : 0 < B) : Tab32 w' :=
  ⟨Nat.lt_of_lt_of_le h.1 hb.size, fun j hj => (hb.cell (p := ⟨0, j, none⟩) hB).trans (h.2 j hj)⟩
theorem Tab32.drew {w : World} (h : Tab32 w) : Tab32 w.drew := h
/-- From the row's condition. -/
theorem Tab32.of_laid {w : World} (h : laidMet Tryd.prog [("math/bits.deBruijn32tab", Lib.tabData .u8 (Lib.deBruijn32tab.map fun x : Nat => (x : Int)))] w) : Tab32 w := by
  obtain ⟨ps, ⟨g0, t0, cs0, f0, p0, q0, hg0, ht0, hv0, hd0, _, _⟩, _, _⟩ := h
  obtain rfl := Option.some.inj ((show Tryd.prog.globalNamed "math/bits.deBruijn32tab" = some 0 by kernel_rfl).symm.trans hg0)
  obtain rfl := Option.some.inj ((show (Tryd.prog.globals[0]?).map (·.type) = some 205 by kernel_rfl).symm.trans ht0)
  have hcs := Lib.cells_of_tab Tryd.underlying205 Tryd.underlying5 (by kernel_rfl) (by kernel_rfl) hd0
  have hc : ∀ j, j < 32 → w.cell? ⟨0, j, none⟩ = some (.int .u8 ((Lib.deBruijn32tab.getD j 0 : Nat) : Int)) := fun j hj => by
    rw [World.var?_cell hg0 hv0 j, ← Array.getElem?_toList, hcs]
    have h2 : ∀ j, j < 32 → ((Lib.deBruijn32tab.map fun x : Nat => (x : Int)).map fun z => Value.int .u8 z)[j]? = some (.int .u8 ((Lib.deBruijn32tab.getD j 0 : Nat) : Int)) := by
      intro j hj
      rw [List.getElem?_map, List.getElem?_map, List.getD_eq_getElem?_getD]
      have hl : j < Lib.deBruijn32tab.length := hj
      rw [List.getElem?_eq_getElem hl]
      rfl
    exact h2 j hj
  exact ⟨World.block_lt_of_cell? w _ (hc 0 (by omega)), hc⟩

theorem tz_key (x a : Nat) (hx : x < 4294967296) (hx0 : x ≠ 0) (hlow : x &&& (4294967296 - x) = a) :
    bits BinOp.and IntKind.u32 (x : Int) (-(x : Int) % 4294967296) * 125613361 % 4294967296 / 134217728 = ((a * 125613361 % 4294967296 / 134217728 : Nat) : Int) := by
  have e1 : -(x : Int) % 4294967296 = ((4294967296 - x : Nat) : Int) := by omega
  rw [e1, u32_and_nat x _ hx (by omega), hlow]
  omega
set_option maxHeartbeats 1000000 in
theorem tz_core (x k idx : Nat) (w : World) (hx0 : ((x : Int) == 0) = false)
    (key : bits BinOp.and IntKind.u32 (x : Int) (-(x : Int) % 4294967296) * 125613361 % 4294967296 / 134217728 = (idx : Int))
    (hi : idx < 32) (hk : k < 32) (hcell : w.cell? ⟨0, idx, none⟩ = some (.int .u8 k)) :
    Calls Tryd.prog 122 #[.int .u32 x] w fun e w' => e = .returned (.int .i64 k) ∧ w = w' := by
  go_enter Tryd.func122, Tryd.ntmps122
  go_wp2_with (simp only [key])
  go_ret
  exact ⟨rfl, rfl⟩
theorem tz_any (x : Nat) (hx : x < 4294967296) (hx0 : x ≠ 0) (w : World) (hT : Tab32 w) :
    Calls Tryd.prog 122 #[.int .u32 x] w fun e w' => e = .returned (.int .i64 ((Lib.ctz 32 x : Nat) : Int)) ∧ w = w' := by
  obtain ⟨hlow, hk⟩ := Lib.lowest_bit 32 x hx0 hx
  obtain ⟨hi, htab⟩ := Lib.deBruijn32_at _ hk
  have hcell := hT.2 _ hi
  rw [htab] at hcell
  exact tz_core x _ _ w (by simp; omega) (tz_key x _ hx hx0 hlow) hi hk hcell
end Go.Proofs.YtnlpeiffbnlncaaDoor

/- Contracts: cmp.Compare at int, cmp.Or at int. -/
namespace Go.Proofs.YtnlpeiffbnlncaaDoor
open Go.RowKit

def cmpI (a b : Int) : Int := if a < b then -1 else if b < a then 1 else 0
theorem cmpI_range (a b : Int) : I64 (cmpI a b) := by unfold cmpI I64; split <;> (try split) <;> omega
def orI : List Int → Int
  | [] => 0
  | x :: xs => if x = 0 then orI xs else x

theorem isNaN_any (x : Int) (w : World) : Calls Tryd.prog 126 #[.int .i64 x] w fun e w' => e = .returned (.bool false) ∧ w = w' := by
  go_enter Tryd.func126, Tryd.ntmps126
  go_wp2
  go_ret
  exact ⟨by simp, rfl⟩

theorem cmpInt_any (x y : Int) (w : World) : Calls Tryd.prog 105 #[.int .i64 x, .int .i64 y] w fun e w' => e = .returned (.int .i64 (cmpI x y)) ∧ w = w' := by
  go_enter Tryd.func105, Tryd.ntmps105
  go_wp2_with (go_at_call 126; refine (isNaN_any _ _).mono ?_; rintro e w' ⟨rfl, rfl⟩)
  all_goals
    go_ret
    refine ⟨?_, rfl⟩
    simp [cmpI]
    omega

set_option maxRecDepth 100000 in
theorem or_any (A : Option Addr) (c : Nat) (xs : List Int) (S : Nat → Prop) (w : World) (hn : xs.length ≤ c) (hc : c ≤ 9223372036854775807) (hA : Els w S xs A) :
    Calls Tryd.prog 104 #[.slice A xs.length c] w fun e w' => e = .returned (.int .i64 (orI xs)) ∧ w = w' := by
  go_enter Tryd.func104, Tryd.ntmps104
  go_wp2
  go_loop [8] (fun i => ∃ k : Nat, k ≤ xs.length ∧ i = .int .i64 k ∧ orI xs = orI (xs.drop k)) (fun i => xs.length - (intOf i).toNat)
  case atStart => exact ⟨0, Nat.zero_le _, rfl, rfl⟩
  case round =>
    obtain ⟨k, hk, rfl, hr⟩ := hrel
    have Hr := Lib.hid hr
    clear hr
    by_cases hlt : k < xs.length
    · obtain ⟨x, hx⟩ := get_some hlt
      obtain ⟨b, o, rfl, _, hb, hi, hcell⟩ := hA.int hx
      have Hd := Lib.hid (drop_cons hx)
      clear hx hA
      by_cases h0 : x = 0
      · subst h0
        go_wp2
        go_round
        case rel => exact ⟨k + 1, by omega, by go_num, by rw [Hr.out, Hd.out]; simp [orI]⟩
        case measure => simp [intOf]; omega
      · have h1 : (x != 0) = true := by simpa using h0
        have Hh := Lib.hid h0
        clear h0
        go_wp2
        go_ret
        exact ⟨ret_int (by rw [Hr.out, Hd.out, orI, if_neg Hh.out]), rfl⟩
    · go_wp2
      go_ret
      exact ⟨ret_int (by rw [Hr.out, List.drop_of_length_le (by omega)]; rfl), rfl⟩
/-- cmp.Or of two and of three numbers that lie in a new block. -/
theorem or2_any (g c : Nat) (x y : Int) (w : World) (hx : I64 x) (hy : I64 y) (hc : 2 ≤ c) (hc' : c ≤ 9223372036854775807) (h0 : w.cell? ⟨g, 0, none⟩ = some (.int .i64 x)) (h1 : w.cell? ⟨g, 1, none⟩ = some (.int .i64 y)) :
    Calls Tryd.prog 104 #[.slice (some ⟨g, 0, none⟩) 2 c] w fun e w' => e = .returned (.int .i64 (orI [x, y])) ∧ w = w' :=
  or_any (some ⟨g, 0, none⟩) c [x, y] (fun _ => True) w hc hc' fun _ => ⟨g, 0, rfl, trivial, fun i z hi => by
    match i, hi with
    | 0, hi => simp at hi; subst hi; exact ⟨[.int .i64 x], ⟨rfl, hx⟩, fun j u hu => by match j, hu with | 0, hu => simp at hu; subst hu; exact h0⟩
    | 1, hi => simp at hi; subst hi; exact ⟨[.int .i64 y], ⟨rfl, hy⟩, fun j u hu => by match j, hu with | 0, hu => simp at hu; subst hu; exact h1⟩⟩
end Go.Proofs.YtnlpeiffbnlncaaDoor

/- Contracts: slices.IndexFunc and slices.ContainsFunc at symbols, at whatever predicate. -/
namespace Go.Proofs.YtnlpeiffbnlncaaDoor
open Go.RowKit
set_option linter.unusedVariables false

set_option maxRecDepth 100000 in
theorem idxSym_any (A : Option Addr) (c : Nat) (xs : List Sym) (S : Nat → Prop) (w : World) (F : Nat) (cap : Value) (p : Sym → Bool) (hm : xs.length ≤ 9223372036854775807) (hA : Els w S xs A) (hgo : IsGo F)
    (hcall : ∀ (x : Sym) (W : World), x ∈ xs → Below w.heap.size w W → Calls Tryd.prog F #[.agg #[.bool x.term, .int .i64 x.n], cap] W fun e W' => e = .returned (.bool (p x)) ∧ Below W.heap.size W W') :
    Calls Tryd.prog 84 #[.slice A xs.length c, .func (.func F) #[] #[cap]] w fun e w' => e = .returned (.int .i64 (idxI p xs)) ∧ Below w.heap.size w w' := by
  have HC := Lib.hid hcall
  have hgo' : ∀ (args : Array Value) (W : World), (callFunc F args).run Tryd.prog W = .ok (.enter F args) W := hgo
  clear hcall hgo
  go_enter Tryd.func84, Tryd.ntmps84
  go_wp2
  go_loopw [8] (fun i wr => ∃ k : Nat, k ≤ xs.length ∧ i = .int .i64 k ∧ (∀ y ∈ xs.take k, p y = false) ∧ Below w.heap.size w wr) (fun i _ => xs.length - (intOf i).toNat)
  case atStart => exact ⟨0, Nat.zero_le _, rfl, by simp, Below.refl _ _⟩
  case round =>
    obtain ⟨k, hk, rfl, hno, hb⟩ := hrel
    have HN := Lib.hid hno
    have HB := Lib.hid hb
    clear hno hb
    by_cases hlt : k < xs.length
    · obtain ⟨x, hx⟩ := get_some hlt
      obtain ⟨b, o, rfl, _, hbs, hi, hc0, hc1⟩ := (hA.below HB.out).sym hx
      have HX := Lib.hid hx
      have HM := Lib.hid (List.mem_of_getElem? hx)
      clear hx
      have hk0 : (0 : Int) ≤ (k : Int) := by omega
      have hk1 : (k : Int) < (xs.length : Int) := by omega
      go_wp2_with fail
      refine (HC.out x _ HM.out HB.out).mono ?_
      rintro e w1 ⟨rfl, hb1⟩
      have HB1 := Lib.hid hb1
      clear hb1
      cases hp : p x
      · go_wp2
        go_roundw
        case rel => exact ⟨k + 1, by omega, by go_num, by
          rw [take_snoc HX.out]
          intro y hy
          rcases List.mem_append.1 hy with h | h
          · exact HN.out y h
          · simp at h; subst h; exact hp, bthen HB.out HB1.out HB.out.size⟩
        case measure => simp [intOf]; omega
      · have E0 := Lib.hid (idxI_hit HX.out hp HN.out)
        clear hp
        go_wp2
        go_ret
        exact ⟨ret_int E0.out.symm, bthen HB.out HB1.out HB.out.size⟩
    · have E0 := Lib.hid (show idxI p xs = -1 from idxI_none (by have h := HN.out; rwa [List.take_of_length_le (by omega)] at h))
      go_wp2
      go_ret
      exact ⟨ret_int E0.out.symm, HB.out⟩

theorem contSym_any (A : Option Addr) (c : Nat) (xs : List Sym) (S : Nat → Prop) (w : World) (F : Nat) (cap : Value) (p : Sym → Bool) (hm : xs.length ≤ 9223372036854775807) (hA : Els w S xs A) (hgo : IsGo F)
    (hcall : ∀ (x : Sym) (W : World), x ∈ xs → Below w.heap.size w W → Calls Tryd.prog F #[.agg #[.bool x.term, .int .i64 x.n], cap] W fun e W' => e = .returned (.bool (p x)) ∧ Below W.heap.size W W') :
    Calls Tryd.prog 50 #[.slice A xs.length c, .func (.func F) #[] #[cap]] w fun e w' => e = .returned (.bool (xs.any p)) ∧ Below w.heap.size w w' := by
  have HC := Lib.hid hcall
  have HG := Lib.hid hgo
  have HA := Lib.hid hA
  clear hcall hgo hA
  go_enter Tryd.func50, Tryd.ntmps50
  go_wp2_with fail
  refine (idxSym_any A c xs S w F cap p hm HA.out HG.out HC.out).mono ?_
  rintro e w1 ⟨rfl, hb1⟩
  go_wp2
  go_ret
  exact ⟨ret_bool (idxI_nonneg p xs), hb1⟩

theorem contSym_n (A : Option Addr) (n c : Nat) (xs : List Sym) (hn : n = xs.length) (S : Nat → Prop) (w : World) (F : Nat) (cap : Value) (p : Sym → Bool) (hm : xs.length ≤ 9223372036854775807) (hA : Els w S xs A) (hgo : IsGo F)
    (hcall : ∀ (x : Sym) (W : World), x ∈ xs → Below w.heap.size w W → Calls Tryd.prog F #[.agg #[.bool x.term, .int .i64 x.n], cap] W fun e W' => e = .returned (.bool (p x)) ∧ Below W.heap.size W W') :
    Calls Tryd.prog 50 #[.slice A n c, .func (.func F) #[] #[cap]] w fun e w' => e = .returned (.bool (xs.any p)) ∧ Below w.heap.size w w' := by
  subst hn; exact contSym_any A c xs S w F cap p hm hA hgo hcall
end Go.Proofs.YtnlpeiffbnlncaaDoor

/- Contracts: slices.IndexFunc and slices.ContainsFunc at rules, at whatever predicate. -/
namespace Go.Proofs.YtnlpeiffbnlncaaDoor
open Go.RowKit
set_option linter.unusedVariables false

set_option maxRecDepth 100000 in
theorem idxRule_any (A : Option Addr) (c : Nat) (xs : List Rule) (S : Nat → Prop) (w : World) (F : Nat) (cap : Value) (p : Rule → Bool) (hm : xs.length ≤ 9223372036854775807) (hA : Els w S xs A) (hgo : IsGo F)
    (hcall : ∀ (x : Rule) (W : World), x ∈ xs → Below w.heap.size w W → ∀ (A' : Option Addr) (c' : Nat), x.right.length ≤ c' → c' ≤ 9223372036854775807 → Els W S x.right A' → Calls Tryd.prog F #[.agg #[.int .i64 x.left, .slice A' x.right.length c'], cap] W fun e W' => e = .returned (.bool (p x)) ∧ Below W.heap.size W W') :
    Calls Tryd.prog 108 #[.slice A xs.length c, .func (.func F) #[] #[cap]] w fun e w' => e = .returned (.int .i64 (idxI p xs)) ∧ Below w.heap.size w w' := by
  have HC := Lib.hid hcall
  have hgo' : ∀ (args : Array Value) (W : World), (callFunc F args).run Tryd.prog W = .ok (.enter F args) W := hgo
  clear hcall hgo
  go_enter Tryd.func108, Tryd.ntmps108
  go_wp2
  go_loopw [8] (fun i wr => ∃ k : Nat, k ≤ xs.length ∧ i = .int .i64 k ∧ (∀ y ∈ xs.take k, p y = false) ∧ Below w.heap.size w wr) (fun i _ => xs.length - (intOf i).toNat)
  case atStart => exact ⟨0, Nat.zero_le _, rfl, by simp, Below.refl _ _⟩
  case round =>
    obtain ⟨k, hk, rfl, hno, hb⟩ := hrel
    have HN := Lib.hid hno
    have HB := Lib.hid hb
    clear hno hb
    by_cases hlt : k < xs.length
    · obtain ⟨x, hx⟩ := get_some hlt
      obtain ⟨b, o, A1, c1, rfl, _, hbs, hi, hl1, hl2, hE1, hc0, hc1⟩ := (hA.below HB.out).rule hx
      have HE1 := Lib.hid hE1
      clear hE1
      have HX := Lib.hid hx
      have HM := Lib.hid (List.mem_of_getElem? hx)
      clear hx
      have hk0 : (0 : Int) ≤ (k : Int) := by omega
      have hk1 : (k : Int) < (xs.length : Int) := by omega
      go_wp2_with fail
      refine (HC.out x _ HM.out HB.out A1 c1 hl1 hl2 HE1.out).mono ?_
      rintro e w1 ⟨rfl, hb1⟩
      have HB1 := Lib.hid hb1
      clear hb1
      cases hp : p x
      · go_wp2
        go_roundw
        case rel => exact ⟨k + 1, by omega, by go_num, by
          rw [take_snoc HX.out]
          intro y hy
          rcases List.mem_append.1 hy with h | h
          · exact HN.out y h
          · simp at h; subst h; exact hp, bthen HB.out HB1.out HB.out.size⟩
        case measure => simp [intOf]; omega
      · have E0 := Lib.hid (idxI_hit HX.out hp HN.out)
        clear hp
        go_wp2
        go_ret
        exact ⟨ret_int E0.out.symm, bthen HB.out HB1.out HB.out.size⟩
    · have E0 := Lib.hid (show idxI p xs = -1 from idxI_none (by have h := HN.out; rwa [List.take_of_length_le (by omega)] at h))
      go_wp2
      go_ret
      exact ⟨ret_int E0.out.symm, HB.out⟩

theorem contRule_any (A : Option Addr) (c : Nat) (xs : List Rule) (S : Nat → Prop) (w : World) (F : Nat) (cap : Value) (p : Rule → Bool) (hm : xs.length ≤ 9223372036854775807) (hA : Els w S xs A) (hgo : IsGo F)
    (hcall : ∀ (x : Rule) (W : World), x ∈ xs → Below w.heap.size w W → ∀ (A' : Option Addr) (c' : Nat), x.right.length ≤ c' → c' ≤ 9223372036854775807 → Els W S x.right A' → Calls Tryd.prog F #[.agg #[.int .i64 x.left, .slice A' x.right.length c'], cap] W fun e W' => e = .returned (.bool (p x)) ∧ Below W.heap.size W W') :
    Calls Tryd.prog 80 #[.slice A xs.length c, .func (.func F) #[] #[cap]] w fun e w' => e = .returned (.bool (xs.any p)) ∧ Below w.heap.size w w' := by
  have HC := Lib.hid hcall
  have HG := Lib.hid hgo
  have HA := Lib.hid hA
  clear hcall hgo hA
  go_enter Tryd.func80, Tryd.ntmps80
  go_wp2_with fail
  refine (idxRule_any A c xs S w F cap p hm HA.out HG.out HC.out).mono ?_
  rintro e w1 ⟨rfl, hb1⟩
  go_wp2
  go_ret
  exact ⟨ret_bool (idxI_nonneg p xs), hb1⟩

theorem contRule_n (A : Option Addr) (n c : Nat) (xs : List Rule) (hn : n = xs.length) (S : Nat → Prop) (w : World) (F : Nat) (cap : Value) (p : Rule → Bool) (hm : xs.length ≤ 9223372036854775807) (hA : Els w S xs A) (hgo : IsGo F)
    (hcall : ∀ (x : Rule) (W : World), x ∈ xs → Below w.heap.size w W → ∀ (A' : Option Addr) (c' : Nat), x.right.length ≤ c' → c' ≤ 9223372036854775807 → Els W S x.right A' → Calls Tryd.prog F #[.agg #[.int .i64 x.left, .slice A' x.right.length c'], cap] W fun e W' => e = .returned (.bool (p x)) ∧ Below W.heap.size W W') :
    Calls Tryd.prog 80 #[.slice A n c, .func (.func F) #[] #[cap]] w fun e w' => e = .returned (.bool (xs.any p)) ∧ Below w.heap.size w w' := by
  subst hn; exact contRule_any A c xs S w F cap p hm hA hgo hcall
end Go.Proofs.YtnlpeiffbnlncaaDoor

/- Contracts: slices.IndexFunc and slices.ContainsFunc at ints, at whatever predicate. -/
namespace Go.Proofs.YtnlpeiffbnlncaaDoor
open Go.RowKit
set_option linter.unusedVariables false

set_option maxRecDepth 100000 in
theorem idxInt_any (A : Option Addr) (c : Nat) (xs : List Int) (S : Nat → Prop) (w : World) (F : Nat) (caps : Array Value) (p : Int → Bool) (hm : xs.length ≤ 9223372036854775807) (hA : Els w S xs A) (hgo : IsGo F)
    (hcall : ∀ (x : Int) (W : World), x ∈ xs → Below w.heap.size w W → Calls Tryd.prog F (#[.int .i64 x] ++ caps) W fun e W' => e = .returned (.bool (p x)) ∧ Below W.heap.size W W') :
    Calls Tryd.prog 119 #[.slice A xs.length c, .func (.func F) #[] caps] w fun e w' => e = .returned (.int .i64 (idxI p xs)) ∧ Below w.heap.size w w' := by
  have HC := Lib.hid hcall
  have hgo' : ∀ (args : Array Value) (W : World), (callFunc F args).run Tryd.prog W = .ok (.enter F args) W := hgo
  clear hcall hgo
  go_enter Tryd.func119, Tryd.ntmps119
  go_wp2
  go_loopw [8] (fun i wr => ∃ k : Nat, k ≤ xs.length ∧ i = .int .i64 k ∧ (∀ y ∈ xs.take k, p y = false) ∧ Below w.heap.size w wr) (fun i _ => xs.length - (intOf i).toNat)
  case atStart => exact ⟨0, Nat.zero_le _, rfl, by simp, Below.refl _ _⟩
  case round =>
    obtain ⟨k, hk, rfl, hno, hb⟩ := hrel
    have HN := Lib.hid hno
    have HB := Lib.hid hb
    clear hno hb
    by_cases hlt : k < xs.length
    · obtain ⟨x, hx⟩ := get_some hlt
      obtain ⟨b, o, rfl, _, hbs, hi, hc0⟩ := (hA.below HB.out).int hx
      have HX := Lib.hid hx
      have HM := Lib.hid (List.mem_of_getElem? hx)
      clear hx
      have hk0 : (0 : Int) ≤ (k : Int) := by omega
      have hk1 : (k : Int) < (xs.length : Int) := by omega
      go_wp2_with fail
      refine (HC.out x _ HM.out HB.out).mono ?_
      rintro e w1 ⟨rfl, hb1⟩
      have HB1 := Lib.hid hb1
      clear hb1
      cases hp : p x
      · go_wp2
        go_roundw
        case rel => exact ⟨k + 1, by omega, by go_num, by
          rw [take_snoc HX.out]
          intro y hy
          rcases List.mem_append.1 hy with h | h
          · exact HN.out y h
          · simp at h; subst h; exact hp, bthen HB.out HB1.out HB.out.size⟩
        case measure => simp [intOf]; omega
      · have E0 := Lib.hid (idxI_hit HX.out hp HN.out)
        clear hp
        go_wp2
        go_ret
        exact ⟨ret_int E0.out.symm, bthen HB.out HB1.out HB.out.size⟩
    · have E0 := Lib.hid (show idxI p xs = -1 from idxI_none (by have h := HN.out; rwa [List.take_of_length_le (by omega)] at h))
      go_wp2
      go_ret
      exact ⟨ret_int E0.out.symm, HB.out⟩

theorem contInt_any (A : Option Addr) (c : Nat) (xs : List Int) (S : Nat → Prop) (w : World) (F : Nat) (caps : Array Value) (p : Int → Bool) (hm : xs.length ≤ 9223372036854775807) (hA : Els w S xs A) (hgo : IsGo F)
    (hcall : ∀ (x : Int) (W : World), x ∈ xs → Below w.heap.size w W → Calls Tryd.prog F (#[.int .i64 x] ++ caps) W fun e W' => e = .returned (.bool (p x)) ∧ Below W.heap.size W W') :
    Calls Tryd.prog 97 #[.slice A xs.length c, .func (.func F) #[] caps] w fun e w' => e = .returned (.bool (xs.any p)) ∧ Below w.heap.size w w' := by
  have HC := Lib.hid hcall
  have HG := Lib.hid hgo
  have HA := Lib.hid hA
  clear hcall hgo hA
  go_enter Tryd.func97, Tryd.ntmps97
  go_wp2_with fail
  refine (idxInt_any A c xs S w F caps p hm HA.out HG.out HC.out).mono ?_
  rintro e w1 ⟨rfl, hb1⟩
  go_wp2
  go_ret
  exact ⟨ret_bool (idxI_nonneg p xs), hb1⟩

theorem contInt_n (A : Option Addr) (n c : Nat) (xs : List Int) (hn : n = xs.length) (S : Nat → Prop) (w : World) (F : Nat) (caps : Array Value) (p : Int → Bool) (hm : xs.length ≤ 9223372036854775807) (hA : Els w S xs A) (hgo : IsGo F)
    (hcall : ∀ (x : Int) (W : World), x ∈ xs → Below w.heap.size w W → Calls Tryd.prog F (#[.int .i64 x] ++ caps) W fun e W' => e = .returned (.bool (p x)) ∧ Below W.heap.size W W') :
    Calls Tryd.prog 97 #[.slice A n c, .func (.func F) #[] caps] w fun e w' => e = .returned (.bool (xs.any p)) ∧ Below w.heap.size w w' := by
  subst hn; exact contInt_any A c xs S w F caps p hm hA hgo hcall
end Go.Proofs.YtnlpeiffbnlncaaDoor

/- Contract: gram.Word. -/
namespace Go.Proofs.YtnlpeiffbnlncaaDoor
open Go.RowKit
set_option linter.unusedVariables false

def wordBad (tm : Int) (x : Int) : Bool := decide (x < 0) || decide (tm ≤ x)
def wordE (tm : Int) (l : List Int) (most : Int) : Int := if most < (l.length : Int) then 2 else if l.any (wordBad tm) then 1 else 0
theorem word_go : IsGo 98 := isGo_of Tryd.func98 (by kernel_rfl) (by kernel_rfl)
theorem word1_any (G : Nat) (tm x : Int) (w : World) (hG : w.cell? ⟨G, 0, none⟩ = some (.int .i64 tm)) :
    Calls Tryd.prog 98 #[.int .i64 x, .pointer (some ⟨G, 0, none⟩)] w fun e w' => e = .returned (.bool (wordBad tm x)) ∧ Below w.heap.size w w' := by
  have hb := Lib.hid (Below.refl w.heap.size w)
  by_cases hx : x < 0
  · have hE := Lib.hid (show wordBad tm x = true by simp [wordBad, hx])
    go_enter Tryd.func98, Tryd.ntmps98
    go_wp2
    go_ret
    exact ⟨ret_bool hE.out.symm, hb.out⟩
  · have hx' : decide (x < 0) = false := by simp; omega
    have hE := Lib.hid (show wordBad tm x = decide (tm ≤ x) by simp [wordBad, hx])
    go_enter Tryd.func98, Tryd.ntmps98
    go_wp2
    go_ret
    exact ⟨ret_bool hE.out.symm, hb.out⟩

set_option maxRecDepth 100000 in
set_option maxHeartbeats 1000000 in
theorem word_any (tm a b most : Int) (v : Value) (l : List Int) (B : Option Addr) (d : Nat) (S : Nat → Prop) (w : World) (hn : l.length ≤ 9223372036854775807) (hB : Els w S l B) (hS : ∀ b, S b → b < w.heap.size) (hv : ∃ A n c, v = .slice A n c) :
    Calls Tryd.prog 72 #[.agg #[.int .i64 tm, .int .i64 a, .int .i64 b, v], .slice B l.length d, .int .i64 most] w fun e w' => e = .returned (.int .i64 (wordE tm l most)) ∧ Below w.heap.size w w' := by
  obtain ⟨A, n, c, rfl⟩ := hv
  have hba : Below w.heap.size w (w.alloc (.cells #[.int .i64 tm, .int .i64 a, .int .i64 b, .slice A n c] 25)) := (Below.refl _ _).alloc (Nat.le_refl _) _
  have HBa := Lib.hid hba
  have HG := Lib.hid (Blk'.new w 25 #[.int .i64 tm, .int .i64 a, .int .i64 b, .slice A n c])
  have HB := Lib.hid (hB.below hba)
  clear hba hB
  by_cases hm : most < (l.length : Int)
  · have hE := Lib.hid (show wordE tm l most = 2 by unfold wordE; rw [if_pos hm])
    go_enter Tryd.func72, Tryd.ntmps72
    go_wp2
    go_ret
    exact ⟨ret_int hE.out.symm, HBa.out⟩
  · have hm' : ¬ most < (l.length : Int) := hm
    have hmf : ∀ (fn : Fn) (first cap : Array Value) (w : World), (Instr.makeFunc fn first cap).run Tryd.prog w = .ok (.func fn first cap) w := fun _ _ _ _ => rfl
    have hE := Lib.hid (show wordE tm l most = if l.any (wordBad tm) then 1 else 0 by unfold wordE; rw [if_neg hm])
    go_enter Tryd.func72, Tryd.ntmps72
    go_wp2_with fail
    refine (contInt_any B d l S _ 98 #[.pointer (some ⟨w.heap.size, 0, none⟩)] (wordBad tm) hn HB.out word_go (fun x W _ hW => word1_any _ tm x W ((HG.out.below hW HG.out.lt).cell 0))).mono ?_
    rintro e w1 ⟨rfl, hb1⟩
    have HB1 := Lib.hid (bthen HBa.out hb1 HBa.out.size)
    clear hb1
    cases hany : l.any (wordBad tm)
    all_goals
      rw [hany] at hE
      go_wp2
      go_ret
      exact ⟨ret_int hE.out.symm, HB1.out⟩
end Go.Proofs.YtnlpeiffbnlncaaDoor

/- gram.T and gram.N and their kin: a symbol is returned. -/
namespace Go.Proofs.YtnlpeiffbnlncaaDoor
open Go.RowKit
set_option linter.unusedVariables false

theorem t_any (n : Int) (w : World) : Calls Tryd.prog 93 #[.int .i64 n] w fun e w' => e = .returned (.agg #[.bool true, .int .i64 n]) ∧ Below w.heap.size w w' := by
  go_enter Tryd.func93, Tryd.ntmps93
  go_wp2
  exact bodyPost_ret (v := .agg #[.bool true, .int .i64 n]) (by simp [results, Tryd.results93, go_sem]) rfl ⟨rfl, (Below.refl _ _).alloc (Nat.le_refl _) _⟩
theorem n_any (n : Int) (w : World) : Calls Tryd.prog 69 #[.int .i64 n] w fun e w' => e = .returned (.agg #[.bool false, .int .i64 n]) ∧ Below w.heap.size w w' := by
  go_enter Tryd.func69, Tryd.ntmps69
  go_wp2
  exact bodyPost_ret (v := .agg #[.bool false, .int .i64 n]) (by simp [results, Tryd.results69, go_sem]) rfl ⟨rfl, (Below.refl _ _).alloc (Nat.le_refl _) _⟩
end Go.Proofs.YtnlpeiffbnlncaaDoor

/- Contract: slices.swapRangeCmpFunc at packs: a permutation. -/
namespace Go.Proofs.YtnlpeiffbnlncaaDoor
open Go.RowKit
set_option linter.unusedVariables false

set_option maxRecDepth 100000 in
set_option maxHeartbeats 4000000 in
theorem swapRange_any (w : World) (ps : List PkV) (g cap a b n : Nat) (f : Value) (hN : ps.length < 4611686018427387904) (hR : RowF w g ps) (ha : a + n ≤ ps.length) (hb : b + n ≤ ps.length) (hab : a + n ≤ b) :
    Calls Tryd.prog 149 #[.slice (some ⟨g, 0, none⟩) ps.length cap, .int .i64 a, .int .i64 b, .int .i64 n, f] w (RetPm w g ps) := by
  have HR := Lib.hid hR
  clear hR
  go_enter Tryd.func149, Tryd.ntmps149
  go_wp2_with fail
  go_loopw [10] (fun v wr => ∃ (i : Nat) (qs : List PkV), i ≤ n ∧ v = .int .i64 i ∧ RowF wr g qs ∧ qs.Perm ps ∧ Kept (fun b => b = g) w wr) (fun v _ => n - (intOf v).toNat)
  case atStart => exact ⟨0, ps, Nat.zero_le _, rfl, HR.out, List.Perm.refl _, Kept.refl _ _⟩
  case round =>
    obtain ⟨wo, hwo⟩ : ∃ wo : World, wo = wr := ⟨_, rfl⟩
    subst hwo
    obtain ⟨i, qs, hin, rfl, hRo, hPo, hKo⟩ := hrel
    have hql := hPo.length_eq
    by_cases hlt : i < n
    · have hlt' : (i : Int) < (n : Int) := by omega
      obtain ⟨p, hp⟩ := get_some (show a + i < qs.length by omega)
      obtain ⟨q, hq⟩ := get_some (show b + i < qs.length by omega)
      have p0 := hRo.cell0 hp
      have p1 := hRo.cell1 hp
      have q0 := hRo.cell0 hq
      have q1 := hRo.cell1 hq
      have p0f := hRo.frozen ((a + i) * 2)
      have p1f := hRo.frozen ((a + i) * 2 + 1)
      have q0f := hRo.frozen ((b + i) * 2)
      have q1f := hRo.frozen ((b + i) * 2 + 1)
      have hw1 : IntKind.i64.wrap ((a : Int) + (i : Int)) = ((a + i : Nat) : Int) := by rw [← Int.natCast_add]; exact IntWalk.i64_in _ (by omega)
      have hw2 : IntKind.i64.wrap ((b : Int) + (i : Int)) = ((b + i : Nat) : Int) := by rw [← Int.natCast_add]; exact IntWalk.i64_in _ (by omega)
      have hw3 : IntKind.i64.wrap ((i : Int) + 1) = ((i + 1 : Nat) : Int) := IntWalk.i64_in _ (by omega)
      have h1 : (0 : Int) ≤ ((a + i : Nat) : Int) := by omega
      have h2 : ((a + i : Nat) : Int) < (ps.length : Int) := by omega
      have h3 : (0 : Int) ≤ ((b + i : Nat) : Int) := by omega
      have h4 : ((b + i : Nat) : Int) < (ps.length : Int) := by omega
      have hAB : a + i < b + i := by omega
      have HX := Lib.hid (show RowF ((((wo.setCell ⟨g, (a + i) * 2, none⟩ (.int .i64 q.r)).setCell ⟨g, (a + i) * 2 + 1, none⟩ (.slice q.a q.n q.c)).setCell ⟨g, (b + i) * 2, none⟩ (.int .i64 p.r)).setCell ⟨g, (b + i) * 2 + 1, none⟩ (.slice p.a p.n p.c)) g ((qs.set (a + i) q).set (b + i) p) ∧ ((qs.set (a + i) q).set (b + i) p).Perm ps ∧ Kept (fun b => b = g) w wo from
        ⟨(hRo.set_ _ q).set_ _ p, (fswap_perm hp hq).trans hPo, hKo⟩)
      generalize hA : a + i = A at *
      generalize hB : b + i = B at *
      have e1 : ¬ A = B := by omega
      have e2 : ¬ B = A := by omega
      have e3 : ¬ A * 2 = B * 2 := by omega
      have e4 : ¬ B * 2 = A * 2 := by omega
      have e5 : ¬ A * 2 = B * 2 + 1 := by omega
      have e6 : ¬ B * 2 = A * 2 + 1 := by omega
      have e7 : ¬ A * 2 + 1 = B * 2 := by omega
      have e8 : ¬ B * 2 + 1 = A * 2 := by omega
      clear hRo hPo hKo hp hq hAB
      go_wp2_with fail
      go_region
      go_wp2_with fail
      go_roundw
      case rel => exact ⟨i + 1, _, hlt, by go_num, HX.out.1.below ((Below.refl _ _).drew), HX.out.2.1, (pair_kept (pair_kept HX.out.2.2)).drew⟩
      case measure => simp [intOf]; omega
    · have hlt' : ¬ (i : Int) < (n : Int) := by omega
      have HO := Lib.hid (And.intro hRo (And.intro hPo hKo))
      clear hRo hPo hKo
      go_wp2_with fail
      go_end0
      exact ⟨rfl, qs, HO.out⟩
end Go.Proofs.YtnlpeiffbnlncaaDoor

/- Contract: slices.rotateCmpFunc at packs: a permutation. -/
namespace Go.Proofs.YtnlpeiffbnlncaaDoor
open Go.RowKit
set_option linter.unusedVariables false

set_option maxRecDepth 100000 in
set_option maxHeartbeats 1000000 in
theorem rotate_any (w : World) (ps : List PkV) (g cap a m b : Nat) (f : Value) (hN : ps.length < 4611686018427387904) (hR : RowF w g ps) (ham : a < m) (hmb : m < b) (hb : b ≤ ps.length) :
    Calls Tryd.prog 147 #[.slice (some ⟨g, 0, none⟩) ps.length cap, .int .i64 a, .int .i64 m, .int .i64 b, f] w (RetPm w g ps) := by
  have HR := Lib.hid hR
  clear hR
  have hw0 : IntKind.i64.wrap ((m : Int) - (a : Int)) = ((m - a : Nat) : Int) := by rw [← Int.natCast_sub (by omega)]; exact IntWalk.i64_in _ (by omega)
  have hw1 : IntKind.i64.wrap ((b : Int) - (m : Int)) = ((b - m : Nat) : Int) := by rw [← Int.natCast_sub (by omega)]; exact IntWalk.i64_in _ (by omega)
  go_enter Tryd.func147, Tryd.ntmps147
  go_wp2_with fail
  go_loopw [10, 11] (fun v u wr => ∃ (i j : Nat) (qs : List PkV), 0 < i ∧ i ≤ m - a ∧ 0 < j ∧ j ≤ b - m ∧ v = .int .i64 i ∧ u = .int .i64 j ∧ RowF wr g qs ∧ qs.Perm ps ∧ Kept (fun b => b = g) w wr) (fun v u _ => (intOf v).toNat + (intOf u).toNat)
  case atStart => exact ⟨m - a, b - m, ps, by omega, Nat.le_refl _, by omega, Nat.le_refl _, rfl, rfl, HR.out, List.Perm.refl _, Kept.refl _ _⟩
  case round =>
    obtain ⟨wo, hwo⟩ : ∃ wo : World, wo = wr := ⟨_, rfl⟩
    subst hwo
    obtain ⟨i, j, qs, hi0, hi1, hj0, hj1, rfl, rfl, hRo, hPo, hKo⟩ := hrel
    have hql := hPo.length_eq
    have HO := Lib.hid (And.intro hRo (And.intro hPo hKo))
    have hwi : IntKind.i64.wrap ((m : Int) - (i : Int)) = ((m - i : Nat) : Int) := by rw [← Int.natCast_sub (by omega)]; exact IntWalk.i64_in _ (by omega)
    clear hRo hPo hKo
    by_cases hij : i = j
    · subst hij
      have HC := Lib.hid (swapRange_any wo qs g cap (m - i) m i f (by omega) HO.out.1 (by omega) (by omega) (by omega))
      rw [hql] at HC
      go_wp2_with fail
      refine HC.out.mono ?_
      rintro e w1 ⟨rfl, rs, h1, h2, h3⟩
      have HE := Lib.hid (And.intro h1 (And.intro (h2.trans HO.out.2.1) (HO.out.2.2.trans h3)))
      clear h1 h2 h3
      go_wp2_with fail
      go_end0
      exact ⟨rfl, rs, HE.out⟩
    · have hij' : ¬ (i : Int) = (j : Int) := by omega
      by_cases hgt : j < i
      · have hgt' : (j : Int) < (i : Int) := by omega
        have hws : IntKind.i64.wrap ((i : Int) - (j : Int)) = ((i - j : Nat) : Int) := by rw [← Int.natCast_sub (by omega)]; exact IntWalk.i64_in _ (by omega)
        have HC := Lib.hid (swapRange_any wo qs g cap (m - i) m j f (by omega) HO.out.1 (by omega) (by omega) (by omega))
        rw [hql] at HC
        go_wp2_with fail
        refine HC.out.mono ?_
        rintro e w1 ⟨rfl, rs, h1, h2, h3⟩
        have HE := Lib.hid (And.intro h1 (And.intro (h2.trans HO.out.2.1) (HO.out.2.2.trans h3)))
        clear h1 h2 h3
        go_wp2_with fail
        go_roundw
        case rel => exact ⟨i - j, j, rs, by omega, by omega, hj0, hj1, by go_num, rfl, HE.out⟩
        case measure => simp [intOf]; omega
      · have hgt' : ¬ (j : Int) < (i : Int) := by omega
        have hws : IntKind.i64.wrap ((j : Int) - (i : Int)) = ((j - i : Nat) : Int) := by rw [← Int.natCast_sub (by omega)]; exact IntWalk.i64_in _ (by omega)
        obtain ⟨M, hM⟩ : ∃ M : Nat, M = m + j := ⟨_, rfl⟩
        obtain ⟨T, hT⟩ : ∃ T : Nat, T = M - i := ⟨_, rfl⟩
        have hwt : IntKind.i64.wrap ((m : Int) + (j : Int)) = (M : Int) := by rw [← Int.natCast_add, hM]; exact IntWalk.i64_in _ (by omega)
        have hwu : IntKind.i64.wrap ((M : Int) - (i : Int)) = (T : Int) := by rw [← Int.natCast_sub (by omega), hT]; exact IntWalk.i64_in _ (by omega)
        have HC := Lib.hid (swapRange_any wo qs g cap (m - i) T i f (by omega) HO.out.1 (by omega) (by omega) (by omega))
        rw [hql] at HC
        obtain ⟨d, hd⟩ : ∃ d : Nat, d = j - i := ⟨_, rfl⟩
        rw [← hd] at hws
        have hd2 : 0 < d ∧ d ≤ b - m ∧ d < j := by omega
        clear hM hT hd
        go_wp2_with fail
        refine HC.out.mono ?_
        rintro e w1 ⟨rfl, rs, h1, h2, h3⟩
        have HE := Lib.hid (And.intro h1 (And.intro (h2.trans HO.out.2.1) (HO.out.2.2.trans h3)))
        clear h1 h2 h3
        go_wp2_with fail
        go_roundw
        case rel => exact ⟨i, d, rs, hi0, hi1, hd2.1, hd2.2.1, rfl, rfl, HE.out⟩
        case measure => simp [intOf]; omega
end Go.Proofs.YtnlpeiffbnlncaaDoor

/- Contract: slices.Compare at ints. -/
namespace Go.Proofs.YtnlpeiffbnlncaaDoor
open Go.RowKit
set_option linter.unusedVariables false

theorem cmpL_drop {xs ys : List Int} {k : Nat} {x y : Int} (hx : xs[k]? = some x) (hy : ys[k]? = some y) : cmpL (xs.drop k) (ys.drop k) = if cmpI x y = 0 then cmpL (xs.drop (k + 1)) (ys.drop (k + 1)) else cmpI x y := by
  rw [drop_cons hx, drop_cons hy, cmpL]
  unfold cmpI
  by_cases h1 : x < y
  · simp [h1]
  · by_cases h2 : y < x
    · simp [h1, h2]
    · simp [h1, h2]

set_option maxRecDepth 100000 in
set_option maxHeartbeats 2000000 in
theorem compareInts_any (xs ys : List Int) (A B : Option Addr) (c d : Nat) (S S' : Nat → Prop) (w : World) (hm : xs.length ≤ 1000000) (hm' : ys.length ≤ 1000000) (hA : Els w S xs A) (hB : Els w S' ys B) :
    Calls Tryd.prog 106 #[.slice A xs.length c, .slice B ys.length d] w fun e w' => e = .returned (.int .i64 (cmpL xs ys)) ∧ w = w' := by
  have HA := Lib.hid hA
  have HB := Lib.hid hB
  have hm1 : (xs.length : Int) ≤ 1000000 := by omega
  have hm2 : (ys.length : Int) ≤ 1000000 := by omega
  clear hA hB
  go_enter Tryd.func106, Tryd.ntmps106
  go_wp2
  go_loop [11] (fun i => ∃ k : Nat, k ≤ xs.length ∧ k ≤ ys.length ∧ i = .int .i64 k ∧ cmpL xs ys = cmpL (xs.drop k) (ys.drop k)) (fun i => xs.length - (intOf i).toNat)
  case atStart => exact ⟨0, Nat.zero_le _, Nat.zero_le _, rfl, rfl⟩
  case round =>
    obtain ⟨k, hk, hk2, rfl, hcmp⟩ := hrel
    have HC := Lib.hid hcmp
    clear hcmp
    have hk0 : (0 : Int) ≤ (k : Int) := by omega
    by_cases hlt : k < xs.length
    · obtain ⟨x, hx⟩ := get_some hlt
      obtain ⟨bx, ox, rfl, _, _, _, xc⟩ := HA.out.int hx
      have hl1 : (k : Int) < (xs.length : Int) := by omega
      by_cases hlt2 : k < ys.length
      · obtain ⟨y, hy⟩ := get_some hlt2
        obtain ⟨by_, oy, rfl, _, _, _, yc⟩ := HB.out.int hy
        have hl2 : (k : Int) < (ys.length : Int) := by omega
        have hl3 : ¬ (ys.length : Int) ≤ (k : Int) := by omega
        have HD := Lib.hid (cmpL_drop hx hy)
        clear hx hy
        by_cases hz : cmpI x y = 0
        · have hzb : (cmpI x y != 0) = false := by simp [hz]
          have HN := Lib.hid (show cmpL xs ys = cmpL (xs.drop (k + 1)) (ys.drop (k + 1)) by rw [HC.out, HD.out, if_pos hz])
          clear hz
          go_wp2_with fail
          refine (cmpInt_any x y _).mono ?_
          rintro e w1 ⟨rfl, rfl⟩
          go_wp2
          go_round
          case rel => exact ⟨k + 1, hlt, hlt2, by go_num, HN.out⟩
          case measure => simp [intOf]; omega
        · have hzb : (cmpI x y != 0) = true := by simp [hz]
          have HN := Lib.hid (show cmpL xs ys = cmpI x y by rw [HC.out, HD.out, if_neg hz])
          clear hz
          go_wp2_with fail
          refine (cmpInt_any x y _).mono ?_
          rintro e w1 ⟨rfl, rfl⟩
          go_wp2
          go_ret
          exact ⟨ret_int HN.out.symm, rfl⟩
      · have hl3 : (ys.length : Int) ≤ (k : Int) := by omega
        have HN := Lib.hid (show cmpL xs ys = 1 by rw [HC.out, drop_cons hx, show ys.drop k = [] from List.drop_eq_nil_of_le (by omega)]; rfl)
        clear hx
        go_wp2
        go_ret
        exact ⟨ret_int HN.out.symm, rfl⟩
    · have hl1 : ¬ (k : Int) < (xs.length : Int) := by omega
      by_cases hlt2 : xs.length < ys.length
      · obtain ⟨y, hy⟩ := get_some (show k < ys.length by omega)
        have hl2 : (xs.length : Int) < (ys.length : Int) := by omega
        have HN := Lib.hid (show cmpL xs ys = -1 by rw [HC.out, drop_cons hy, show xs.drop k = [] from List.drop_eq_nil_of_le (by omega)]; rfl)
        clear hy
        go_wp2
        go_ret
        exact ⟨ret_int HN.out.symm, rfl⟩
      · have hl2 : ¬ (xs.length : Int) < (ys.length : Int) := by omega
        have HN := Lib.hid (show cmpL xs ys = 0 by rw [HC.out, show xs.drop k = [] from List.drop_eq_nil_of_le (by omega), show ys.drop k = [] from List.drop_eq_nil_of_le (by omega)]; rfl)
        go_wp2
        go_ret
        exact ⟨ret_int HN.out.symm, rfl⟩
end Go.Proofs.YtnlpeiffbnlncaaDoor

