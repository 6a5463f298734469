/- Contract: the climber's operand, of prec. -/
import Derived.Test.YtjdojogjogenkaaDoorQw2
import Derived.Test.YtjdojogjogenkaaDoorQp2
import Derived.StillTailTactics
namespace Go.Proofs.YtjdojogjogenkaaDoor
open Go.RowKit
set_option linter.unusedVariables false

theorem brackets_is (w : World) (t : Table) (A : Option Addr) (n c : Nat) (b : Bool) (h : brk t = b) :
    Calls Tryd.prog 110 #[.agg #[.int .i64 t.terms, .int .i64 t.atom, .int .i64 t.opn, .int .i64 t.cls, .slice A n c]] w fun e w' => e = .returned (.bool b) ∧ Below w.heap.size w w' := by
  rw [← h]
  exact brackets_any w t.terms t.atom t.opn t.cls t.levels _ ⟨A, n, c, rfl⟩
def RetX (x : Tree) (w : World) (e : Ending) (w' : World) : Prop :=
  ∃ (A : Option Addr) (c : Nat), e = .returned (.agg #[.int .i64 x.rule, .int .i64 x.term, .slice A x.kids.length c]) ∧ I64 x.rule ∧ I64 x.term ∧ x.kids.length ≤ c ∧ c ≤ 9223372036854775807 ∧ Els w' (fun b => w.heap.size ≤ b ∧ b < w'.heap.size) x.kids A
/-- What a call of the climber comes to. -/
def RetP (H : Nat → World → Prop) (K : Nat) : Res → World → Ending → World → Prop
  | .ok x q, w, e, w' => RetX x w e w' ∧ H q w' ∧ Kept (fun b => b = K) w w'
  | .rej q, w, e, w' => e = rejectP ∧ H q w' ∧ Kept (fun b => b = K) w w'
theorem rd_leaf {w : World} {S : Nat → Prop} {a : Int} (h : I64 a) : Dat.rd w S (leafT a) [.int .i64 (-1), .int .i64 a, .slice none 0 0] :=
  rd_tree.2 ⟨_, rfl, ⟨(by decide : (-9223372036854775808 : Int) ≤ -1), (by decide : (-1 : Int) ≤ 9223372036854775807)⟩, h, Vl.nil⟩
theorem rd_node {w : World} {S : Nat → Prop} {x : Tree} {A : Option Addr} {c : Nat} (h1 : I64 x.rule) (h2 : I64 x.term) (h3 : x.kids.length ≤ c) (h4 : c ≤ 9223372036854775807) (h : Els w S x.kids A) : Dat.rd w S x [.int .i64 x.rule, .int .i64 x.term, .slice A x.kids.length c] :=
  rd_tree.2 ⟨_, rfl, h1, h2, Vl.of_slice rfl h3 h4 h⟩
theorem i64_0 : I64 0 := ⟨(by decide : (-9223372036854775808 : Int) ≤ 0), (by decide : (0 : Int) ≤ 9223372036854775807)⟩
theorem i64_1 : I64 1 := ⟨(by decide : (-9223372036854775808 : Int) ≤ 1), (by decide : (1 : Int) ≤ 9223372036854775807)⟩
theorem els_one {w : World} {S : Nat → Prop} {g : Nat} {t : TypeId} {x : Tree} {cs : List Value} (hb : Blk' w g t cs.toArray) (h1 : Dat.rd w S x cs) (hg : S g) : Els w S [x] (some ⟨g, 0, none⟩) :=
  els_of_blk [cs] hb (by simp) rfl (rd_one h1) hg
theorem els_pair {w : World} {S : Nat → Prop} {g : Nat} {t : TypeId} {x y : Tree} {cs ds : List Value} {es : Array Value} (hb : Blk' w g t es) (he : es = (cs ++ ds).toArray) (h1 : Dat.rd w S x cs) (h2 : Dat.rd w S y ds) (hg : S g) : Els w S [x, y] (some ⟨g, 0, none⟩) :=
  els_of_blk [cs, ds] hb (by rw [he]; simp) rfl (rd_two h1 h2) hg
theorem rd_three {α : Type} [Dat α] {w : World} {S : Nat → Prop} {x y z : α} {cs ds es : List Value} (h1 : Dat.rd w S x cs) (h2 : Dat.rd w S y ds) (h3 : Dat.rd w S z es) : ∀ (i : Nat) (u : α) (fs : List Value), [x, y, z][i]? = some u → [cs, ds, es][i]? = some fs → Dat.rd w S u fs
  | 0, u, fs, hi, hd => by simp at hi hd; subst hi; subst hd; exact h1
  | 1, u, fs, hi, hd => by simp at hi hd; subst hi; subst hd; exact h2
  | 2, u, fs, hi, hd => by simp at hi hd; subst hi; subst hd; exact h3
  | _ + 3, u, fs, hi, _ => by simp at hi
theorem els_trio {w : World} {S : Nat → Prop} {g : Nat} {t : TypeId} {x y z : Tree} {cs ds fs : List Value} {es : Array Value} (hb : Blk' w g t es) (he : es = (cs ++ (ds ++ fs)).toArray) (h1 : Dat.rd w S x cs) (h2 : Dat.rd w S y ds) (h3 : Dat.rd w S z fs) (hg : S g) : Els w S [x, y, z] (some ⟨g, 0, none⟩) :=
  els_of_blk [cs, ds, fs] hb (by rw [he]; simp) rfl (rd_three h1 h2 h3) hg
theorem below_drew (w : World) : Below w.heap.size w w.drew := (Below.refl _ _).drew
theorem els_i64 {w : World} {S : Nat → Prop} {A : Option Addr} {l : List Int} (h : Els w S l A) {i : Nat} {x : Int} (hx : l[i]? = some x) : I64 x := by
  obtain ⟨_, _, _, _, _, h1, _⟩ := h.int hx
  exact h1
/-- The word is rejected by take. -/
theorem take_rej (K : Nat) (tm at0 op cl term : Int) (lv mv : Value) (l : List Int) (B : Option Addr) (d p : Nat) (S : Nat → Prop) (w : World) (hn : l.length ≤ 1000000) (hp : p ≤ l.length) (hK : Blk' w K 174 (clCells tm at0 op cl lv B l.length d p mv)) (hl : l[p]? ≠ some term) (hB : Els w S l B) :
    Calls Tryd.prog 144 #[.pointer (some ⟨K, 0, none⟩), .int .i64 term] w fun e w' => e = rejectP ∧ Below w.heap.size w w' := by
  by_cases h : p < l.length
  · obtain ⟨o, ho⟩ := get_some h
    exact take_miss K tm at0 op cl term lv mv l B d p o S w hn hK ho (fun e => hl (by rw [ho, e])) hB
  · obtain rfl : p = l.length := by omega
    exact take_end K tm at0 op cl term lv mv B l.length d w hn hK


/-- The world behind a node's making: the result's variable R, the kids' new block. -/
theorem node_fin {t : Table} {l : List Int} {K : Nat} {A : Option Addr} {c : Nat} {B : Option Addr} {d M mn : Nat} {D : DataW Unit} {S St : Nat → Prop} {p q R n : Nat} {w w2 wF : World} {rule : Int} {cs : Array Value} {a0 a1 a2 : Value}
    (h : ClW t l K A c B d M mn D S St p w) (f : ClF t l K M D S St) (hk : Kept (fun b => b = K) w w2) (hB : Blk' w2 K 174 (clCells t.terms t.atom t.opn t.cls (.slice A t.levels.length c) B l.length d q (.map (some M)))) (hq : q ≤ l.length) (hR : Blk' w2 R 27 #[a0, a1, a2]) (hRw : w.heap.size ≤ R)
    (hF : wF = (((w2.setCell ⟨R, 0, none⟩ (.int .i64 rule)).setCell ⟨R, 1, none⟩ (.int .i64 0)).setCell ⟨R, 2, none⟩ (.slice (some ⟨w2.heap.size, 0, none⟩) n n)).alloc (.cells cs 27)) :
    ((wF.cell? ⟨R, 0, none⟩ = some (.int .i64 rule) ∧ wF.cell? ⟨R, 1, none⟩ = some (.int .i64 0) ∧ wF.cell? ⟨R, 2, none⟩ = some (.slice (some ⟨w2.heap.size, 0, none⟩) n n)) ∧ ClW t l K A c B d M mn D S St q wF ∧ Kept (fun b => b = K) w wF) ∧ Blk' wF w2.heap.size 27 cs ∧ wF.heap.size = w2.heap.size + 1 ∧ Kept (fun b => b = R) w2 wF := by
  have hKF : Kept (fun b => b = R) w2 wF := by
    rw [hF]
    exact ((((Kept.refl (fun b => b = R) w2).setCell (p := ⟨R, 0, none⟩) (.inl rfl) _).setCell (p := ⟨R, 1, none⟩) (.inl rfl) _).setCell (p := ⟨R, 2, none⟩) (.inl rfl) _).alloc _
  have hRF : Blk' wF R 27 #[.int .i64 rule, .int .i64 0, .slice (some ⟨w2.heap.size, 0, none⟩) n n] := by
    rw [hF]
    exact (((hR.set_ 0 _).set_ 1 _).set_ 2 _).alloc _
  have hz : wF.heap.size = w2.heap.size + 1 := by rw [hF]; simp
  have hN : Blk' wF w2.heap.size 27 cs := by rw [hF]; exact Blk'.new' _ _ _ (by simp)
  have hKw : Kept (fun b => b = K) w wF := hk.later hKF (fun b hb => .inr (by have h1 : b = R := hb; omega))
  have zK := h.blk.lt
  refine ⟨⟨⟨hRF.cell 0, hRF.cell 1, hRF.cell 2⟩, h.kept f hKw hq (hB.kept hKF (by omega)), hKw⟩, hN, hz, hKF⟩


set_option maxRecDepth 100000 in
set_option maxHeartbeats 1000000 in
/-- There are no brackets: up to the atom. -/
theorem opd_plain_a {t : Table} {l : List Int} {K : Nat} {A : Option Addr} {c : Nat} {B : Option Addr} {d M mn : Nat} {D : DataW Unit} {S St : Nat → Prop} {p : Nat} {w : World} (P : Nat → Nat → Res → Prop) (h : ClW t l K A c B d M mn D S St p w) (f : ClF t l K M D S St) (hbk : brk t = false) (hno : ¬ (brk t = true ∧ l[p]? = some t.opn)) (r : Res) (hr : Opd t l P p r) :
    Calls Tryd.prog 142 #[.pointer (some ⟨K, 0, none⟩)] w (RetP (ClW t l K A c B d M mn D S St) K r w) := by
  obtain ⟨w0, hw0⟩ : ∃ w0 : World, w0 = w.alloc (.cells #[.int .i64 0, .int .i64 0, .slice none 0 0] 27) := ⟨_, rfl⟩
  have hb0 : Below w.heap.size w w0 := by rw [hw0]; exact (Below.refl _ _).alloc (Nat.le_refl _) _
  have hR0 : Blk' w0 w.heap.size 27 #[.int .i64 0, .int .i64 0, .slice none 0 0] := by rw [hw0]; exact Blk'.new w _ _
  have h0 := h.below hb0
  have HB0 := Lib.hid hb0
  have HR0 := Lib.hid hR0
  have H0 := Lib.hid h0
  have F := Lib.hid f
  have HH := Lib.hid h
  have zK : K < w0.heap.size := h0.blk.lt
  have zR : w.heap.size < w0.heap.size := hR0.lt
  have hsm := f.small
  have hle := h.le
  have zKR : K < w.heap.size := h.blk.lt
  have Hr := Lib.hid hr
  have Hno := Lib.hid hno
  have k0 : w0.cell? ⟨K, 0, none⟩ = some (.int .i64 t.terms) := h0.blk.cell 0
  have k1 : w0.cell? ⟨K, 1, none⟩ = some (.int .i64 t.atom) := h0.blk.cell 1
  have k2 : w0.cell? ⟨K, 2, none⟩ = some (.int .i64 t.opn) := h0.blk.cell 2
  have k3 : w0.cell? ⟨K, 3, none⟩ = some (.int .i64 t.cls) := h0.blk.cell 3
  have k4 : w0.cell? ⟨K, 4, none⟩ = some (.slice A t.levels.length c) := h0.blk.cell 4
  have k5 : w0.cell? ⟨K, 5, none⟩ = some (.slice B l.length d) := h0.blk.cell 5
  have k6 : w0.cell? ⟨K, 6, none⟩ = some (.int .i64 p) := h0.blk.cell 6
  have HW := Lib.hid hw0
  have hbr := fun w => brackets_is w t A t.levels.length c false hbk
  have Hbk := Lib.hid hbk
  clear hb0 hR0 h0 h f hr hno hw0 hbk
  go_enter Tryd.func142, Tryd.ntmps142
  go_upto_region 1 with (fail)
  rw [← HW.out]
  refine wp_region_noPanic ?_
  refine wp_region_held_drew (S := (fun w' => w'.cell? ⟨K, 0, none⟩ = some (.int .i64 t.terms) ∧ w'.cell? ⟨K, 1, none⟩ = some (.int .i64 t.atom) ∧ w'.cell? ⟨K, 2, none⟩ = some (.int .i64 t.opn) ∧ w'.cell? ⟨K, 3, none⟩ = some (.int .i64 t.cls) ∧ w'.cell? ⟨K, 4, none⟩ = some (.slice A t.levels.length c) ∧ w'.cell? ⟨K, 5, none⟩ = some (.slice B l.length d) ∧ w'.cell? ⟨K, 6, none⟩ = some (.int .i64 p))) (by kernel_rfl) ?ha (fun hHeld => ?ba)
  case ha => ((try dsimp only); go_keep)
  refine take_run (i := 0) (v := ?va0) rfl (by kernel_rfl) (by kernel_rfl) (by kernel_rfl) (fun _ _ _ h => h) (by rfl) ?ya0 (by assumption) ?ra0
  case ya0 => (intro w hSw; (try dsimp only at hSw); go_simp; try with_reducible rfl)
  try simp only [Act.put, List.setIfInBounds_toArray, List.set_cons_zero, List.set_cons_succ]
  refine take_run (i := 1) (v := ?va1) rfl (by kernel_rfl) (by kernel_rfl) (by kernel_rfl) (fun _ _ _ h => h) (by rfl) ?ya1 (by assumption) ?ra1
  case ya1 => (intro w hSw; (try dsimp only at hSw); go_simp; try with_reducible rfl)
  try simp only [Act.put, List.setIfInBounds_toArray, List.set_cons_zero, List.set_cons_succ]
  refine take_run (i := 2) (v := ?va2) rfl (by kernel_rfl) (by kernel_rfl) (by kernel_rfl) (fun _ _ _ h => h) (by rfl) ?ya2 (by assumption) ?ra2
  case ya2 => (intro w hSw; (try dsimp only at hSw); go_simp; try with_reducible rfl)
  try simp only [Act.put, List.setIfInBounds_toArray, List.set_cons_zero, List.set_cons_succ]
  refine take_run (i := 3) (v := ?va3) rfl (by kernel_rfl) (by kernel_rfl) (by kernel_rfl) (fun _ _ _ h => h) (by rfl) ?ya3 (by assumption) ?ra3
  case ya3 => (intro w hSw; (try dsimp only at hSw); go_simp; try with_reducible rfl)
  try simp only [Act.put, List.setIfInBounds_toArray, List.set_cons_zero, List.set_cons_succ]
  refine take_call (i := 4) rfl (by kernel_rfl) (by rfl) (fun Kq hK => ?_)
  go_simp
  go_at_call 110
  refine (hbr _).mono ?_
  rintro e w1 ⟨rfl, hb1⟩
  have HB1 := Lib.hid (bundrew hb1)
  clear hb1
  have n0 := (HB1.out.cell (p := ⟨K, 0, none⟩) zK).trans k0
  have n1 := (HB1.out.cell (p := ⟨K, 1, none⟩) zK).trans k1
  have n2 := (HB1.out.cell (p := ⟨K, 2, none⟩) zK).trans k2
  have n3 := (HB1.out.cell (p := ⟨K, 3, none⟩) zK).trans k3
  have n4 := (HB1.out.cell (p := ⟨K, 4, none⟩) zK).trans k4
  have n5 := (HB1.out.cell (p := ⟨K, 5, none⟩) zK).trans k5
  have n6 := (HB1.out.cell (p := ⟨K, 6, none⟩) zK).trans k6
  refine hK.out _ _ ?ha4 (fun hHeld => ?ra4)
  case ha4 => ((try dsimp only); go_keep)
  clear hK Kq
  try simp only [Act.put, List.setIfInBounds_toArray, List.set_cons_zero, List.set_cons_succ]
  refine take_run (i := 5) (v := ?va5) rfl (by kernel_rfl) (by kernel_rfl) (by kernel_rfl) (fun _ _ _ h => h) (by rfl) ?ya5 (by assumption) ?ra5
  case ya5 => (intro w hSw; (try dsimp only at hSw); go_simp; try with_reducible rfl)
  try simp only [Act.put, List.setIfInBounds_toArray, List.set_cons_zero, List.set_cons_succ]
  refine take_bar (i := 6) rfl (by kernel_rfl) (by kernel_rfl) (by kernel_rfl) (fun _ _ _ h => h) (by rfl) (by assumption) ?_
  try simp only [Act.put, List.setIfInBounds_toArray, List.set_cons_zero, List.set_cons_succ]
  refine take_bar (i := 7) rfl (by kernel_rfl) (by kernel_rfl) (by kernel_rfl) (fun _ _ _ h => h) (by rfl) (by assumption) ?_
  try simp only [Act.put, List.setIfInBounds_toArray, List.set_cons_zero, List.set_cons_succ]
  refine take_bar (i := 8) rfl (by kernel_rfl) (by kernel_rfl) (by kernel_rfl) (fun _ _ _ h => h) (by rfl) (by assumption) ?_
  try simp only [Act.put, List.setIfInBounds_toArray, List.set_cons_zero, List.set_cons_succ]
  refine take_bar (i := 9) rfl (by kernel_rfl) (by kernel_rfl) (by kernel_rfl) (fun _ _ _ h => h) (by rfl) (by assumption) ?_
  try simp only [Act.put, List.setIfInBounds_toArray, List.set_cons_zero, List.set_cons_succ]
  refine take_bar (i := 10) rfl (by kernel_rfl) (by kernel_rfl) (by kernel_rfl) (fun _ _ _ h => h) (by rfl) (by assumption) ?_
  try simp only [Act.put, List.setIfInBounds_toArray, List.set_cons_zero, List.set_cons_succ]
  refine take_bar (i := 11) rfl (by kernel_rfl) (by kernel_rfl) (by kernel_rfl) (fun _ _ _ h => h) (by rfl) (by assumption) ?_
  try simp only [Act.put, List.setIfInBounds_toArray, List.set_cons_zero, List.set_cons_succ]
  refine take_bar (i := 12) rfl (by kernel_rfl) (by kernel_rfl) (by kernel_rfl) (fun _ _ _ h => h) (by rfl) (by assumption) ?_
  try simp only [Act.put, List.setIfInBounds_toArray, List.set_cons_zero, List.set_cons_succ]
  refine take_bar (i := 13) rfl (by kernel_rfl) (by kernel_rfl) (by kernel_rfl) (fun _ _ _ h => h) (by rfl) (by assumption) ?_
  try simp only [Act.put, List.setIfInBounds_toArray, List.set_cons_zero, List.set_cons_succ]
  refine take_bar (i := 14) rfl (by kernel_rfl) (by kernel_rfl) (by kernel_rfl) (fun _ _ _ h => h) (by rfl) (by assumption) ?_
  try simp only [Act.put, List.setIfInBounds_toArray, List.set_cons_zero, List.set_cons_succ]
  refine take_bar (i := 15) rfl (by kernel_rfl) (by kernel_rfl) (by kernel_rfl) (fun _ _ _ h => h) (by rfl) (by assumption) ?_
  try simp only [Act.put, List.setIfInBounds_toArray, List.set_cons_zero, List.set_cons_succ]
  refine take_run (i := 16) (v := ?va16) rfl (by kernel_rfl) (by kernel_rfl) (by kernel_rfl) (fun _ _ _ h => h) (by rfl) ?ya16 (by assumption) ?ra16
  case ya16 => (intro w hSw; (try dsimp only at hSw); go_simp; try with_reducible rfl)
  try simp only [Act.put, List.setIfInBounds_toArray, List.set_cons_zero, List.set_cons_succ]
  refine take_run (i := 17) (v := ?va17) rfl (by kernel_rfl) (by kernel_rfl) (by kernel_rfl) (fun _ _ _ h => h) (by rfl) ?ya17 (by assumption) ?ra17
  case ya17 => (intro w hSw; (try dsimp only at hSw); go_simp; try with_reducible rfl)
  try simp only [Act.put, List.setIfInBounds_toArray, List.set_cons_zero, List.set_cons_succ]
  refine take_bar (i := 18) rfl (by kernel_rfl) (by kernel_rfl) (by kernel_rfl) (fun _ _ _ h => h) (by rfl) (by assumption) ?_
  try simp only [Act.put, List.setIfInBounds_toArray, List.set_cons_zero, List.set_cons_succ]
  refine take_bar (i := 19) rfl (by kernel_rfl) (by kernel_rfl) (by kernel_rfl) (fun _ _ _ h => h) (by rfl) (by assumption) ?_
  try simp only [Act.put, List.setIfInBounds_toArray, List.set_cons_zero, List.set_cons_succ]
  refine take_bar (i := 20) rfl (by kernel_rfl) (by kernel_rfl) (by kernel_rfl) (fun _ _ _ h => h) (by rfl) (by assumption) ?_
  try simp only [Act.put, List.setIfInBounds_toArray, List.set_cons_zero, List.set_cons_succ]
  refine take_bar (i := 21) rfl (by kernel_rfl) (by kernel_rfl) (by kernel_rfl) (fun _ _ _ h => h) (by rfl) (by assumption) ?_
  try simp only [Act.put, List.setIfInBounds_toArray, List.set_cons_zero, List.set_cons_succ]
  refine take_bar (i := 22) rfl (by kernel_rfl) (by kernel_rfl) (by kernel_rfl) (fun _ _ _ h => h) (by rfl) (by assumption) ?_
  try simp only [Act.put, List.setIfInBounds_toArray, List.set_cons_zero, List.set_cons_succ]
  refine take_bar (i := 23) rfl (by kernel_rfl) (by kernel_rfl) (by kernel_rfl) (fun _ _ _ h => h) (by rfl) (by assumption) ?_
  try simp only [Act.put, List.setIfInBounds_toArray, List.set_cons_zero, List.set_cons_succ]
  refine take_bar (i := 24) rfl (by kernel_rfl) (by kernel_rfl) (by kernel_rfl) (fun _ _ _ h => h) (by rfl) (by assumption) ?_
  try simp only [Act.put, List.setIfInBounds_toArray, List.set_cons_zero, List.set_cons_succ]
  refine take_bar (i := 25) rfl (by kernel_rfl) (by kernel_rfl) (by kernel_rfl) (fun _ _ _ h => h) (by rfl) (by assumption) ?_
  try simp only [Act.put, List.setIfInBounds_toArray, List.set_cons_zero, List.set_cons_succ]
  refine take_bar (i := 26) rfl (by kernel_rfl) (by kernel_rfl) (by kernel_rfl) (fun _ _ _ h => h) (by rfl) (by assumption) ?_
  try simp only [Act.put, List.setIfInBounds_toArray, List.set_cons_zero, List.set_cons_succ]
  refine take_bar (i := 27) rfl (by kernel_rfl) (by kernel_rfl) (by kernel_rfl) (fun _ _ _ h => h) (by rfl) (by assumption) ?_
  try simp only [Act.put, List.setIfInBounds_toArray, List.set_cons_zero, List.set_cons_succ]
  refine take_bar (i := 28) rfl (by kernel_rfl) (by kernel_rfl) (by kernel_rfl) (fun _ _ _ h => h) (by rfl) (by assumption) ?_
  try simp only [Act.put, List.setIfInBounds_toArray, List.set_cons_zero, List.set_cons_succ]
  refine take_bar (i := 29) rfl (by kernel_rfl) (by kernel_rfl) (by kernel_rfl) (fun _ _ _ h => h) (by rfl) (by assumption) ?_
  try simp only [Act.put, List.setIfInBounds_toArray, List.set_cons_zero, List.set_cons_succ]
  refine take_bar (i := 30) rfl (by kernel_rfl) (by kernel_rfl) (by kernel_rfl) (fun _ _ _ h => h) (by rfl) (by assumption) ?_
  try simp only [Act.put, List.setIfInBounds_toArray, List.set_cons_zero, List.set_cons_succ]
  refine take_bar (i := 31) rfl (by kernel_rfl) (by kernel_rfl) (by kernel_rfl) (fun _ _ _ h => h) (by rfl) (by assumption) ?_
  try simp only [Act.put, List.setIfInBounds_toArray, List.set_cons_zero, List.set_cons_succ]
  refine take_bar (i := 32) rfl (by kernel_rfl) (by kernel_rfl) (by kernel_rfl) (fun _ _ _ h => h) (by rfl) (by assumption) ?_
  try simp only [Act.put, List.setIfInBounds_toArray, List.set_cons_zero, List.set_cons_succ]
  refine take_bar (i := 33) rfl (by kernel_rfl) (by kernel_rfl) (by kernel_rfl) (fun _ _ _ h => h) (by rfl) (by assumption) ?_
  try simp only [Act.put, List.setIfInBounds_toArray, List.set_cons_zero, List.set_cons_succ]
  refine take_run (i := 34) (v := ?va34) rfl (by kernel_rfl) (by kernel_rfl) (by kernel_rfl) (fun _ _ _ h => h) (by rfl) ?ya34 (by assumption) ?ra34
  case ya34 => (intro w hSw; (try dsimp only at hSw); go_simp; try with_reducible rfl)
  try simp only [Act.put, List.setIfInBounds_toArray, List.set_cons_zero, List.set_cons_succ]
  refine wpAnyH_done (by kernel_rfl) ?_ _
  refine NoPanic.normal ?_
  go_wp2_with fail
  have h1 := H0.out.below HB1.out
  have HH1 := Lib.hid h1
  have HK1 := Lib.hid ((Kept.of_below (fun b => b = K) HB0.out).trans (Kept.of_below (fun b => b = K) HB1.out))
  clear k0 k1 k2 k3 k4 k5 k6 n0 n1 n2 n3 n4 n5 n6 hHeld h1
  cases Hr.out with
  | atom ha hb =>
    refine (take_hit K t.terms t.atom t.opn t.cls t.atom _ _ l B d p S w1 F.out.small HH1.out.blk hb HH1.out.word).mono ?_
    rintro e w2 ⟨rfl, hK2, hk2⟩
    have hR2 := (HR0.out.below HB1.out HR0.out.lt).kept hk2 (by omega)
    have HK2 := Lib.hid (And.intro hK2 hk2)
    have HR2 := Lib.hid hR2
    have HI := Lib.hid (els_i64 HH1.out.word hb)
    have HP := Lib.hid (List.getElem?_eq_some_iff.1 hb).1
    have s0 := hR2.cell 0
    have s1 := hR2.cell 1
    have s2 := hR2.cell 2
    have r0 := hR2.frozen 0
    have r1 := hR2.frozen 1
    have r2 := hR2.frozen 2
    have z2 := hR2.lt
    clear hK2 hk2 hR2 hb ha
    simp at s0 s1 s2
    go_wp2_with fail
    generalize hwF : World.alloc _ _ = wF
    obtain ⟨⟨⟨u0, u1, u2⟩, hC, hKw⟩, hN, hz, hKF⟩ := node_fin HH.out F.out (HK1.out.trans HK2.out.2) HK2.out.1 (by have := HP.out; omega) HR2.out (Nat.le_refl _) hwF.symm
    clear hwF
    refine bodyPost_ret (v := .agg #[.int .i64 0, .int .i64 0, .slice (some ⟨w2.heap.size, 0, none⟩) 1 1]) (by simp [results, Tryd.results142, go_sem, u0, u1, u2]) rfl ⟨⟨_, 1, rfl, i64_0, i64_0, Nat.le_refl _, by omega, ?_⟩, hC, hKw⟩
    exact els_one (cs := [_, _, _]) hN (rd_leaf HI.out) ⟨by omega, by omega⟩
  | none ha hb =>
    refine (take_rej K t.terms t.atom t.opn t.cls t.atom _ _ l B d p S w1 F.out.small hle HH1.out.blk hb HH1.out.word).mono ?_
    rintro e w2 ⟨rfl, hb2⟩
    exact ⟨rfl, rfl, HH1.out.below hb2, HK1.out.below hb2⟩
  | brk hb ho => exact absurd ⟨hb, ho⟩ Hno.out
  | brkNo hb ho => exact absurd ⟨hb, ho⟩ Hno.out
  | brkRej hb ho => exact absurd ⟨hb, ho⟩ Hno.out

set_option maxRecDepth 100000 in
set_option maxHeartbeats 1000000 in
/-- The word is at its end: up to the atom. -/
theorem opd_plain_b {t : Table} {l : List Int} {K : Nat} {A : Option Addr} {c : Nat} {B : Option Addr} {d M mn : Nat} {D : DataW Unit} {S St : Nat → Prop} {p : Nat} {w : World} (P : Nat → Nat → Res → Prop) (h : ClW t l K A c B d M mn D S St p w) (f : ClF t l K M D S St) (hbk : brk t = true) (hpe : p = l.length) (hno : ¬ (brk t = true ∧ l[p]? = some t.opn)) (r : Res) (hr : Opd t l P p r) :
    Calls Tryd.prog 142 #[.pointer (some ⟨K, 0, none⟩)] w (RetP (ClW t l K A c B d M mn D S St) K r w) := by
  obtain ⟨w0, hw0⟩ : ∃ w0 : World, w0 = w.alloc (.cells #[.int .i64 0, .int .i64 0, .slice none 0 0] 27) := ⟨_, rfl⟩
  have hb0 : Below w.heap.size w w0 := by rw [hw0]; exact (Below.refl _ _).alloc (Nat.le_refl _) _
  have hR0 : Blk' w0 w.heap.size 27 #[.int .i64 0, .int .i64 0, .slice none 0 0] := by rw [hw0]; exact Blk'.new w _ _
  have h0 := h.below hb0
  have HB0 := Lib.hid hb0
  have HR0 := Lib.hid hR0
  have H0 := Lib.hid h0
  have F := Lib.hid f
  have HH := Lib.hid h
  have zK : K < w0.heap.size := h0.blk.lt
  have zR : w.heap.size < w0.heap.size := hR0.lt
  have hsm := f.small
  have hle := h.le
  have zKR : K < w.heap.size := h.blk.lt
  have Hr := Lib.hid hr
  have Hno := Lib.hid hno
  have k0 : w0.cell? ⟨K, 0, none⟩ = some (.int .i64 t.terms) := h0.blk.cell 0
  have k1 : w0.cell? ⟨K, 1, none⟩ = some (.int .i64 t.atom) := h0.blk.cell 1
  have k2 : w0.cell? ⟨K, 2, none⟩ = some (.int .i64 t.opn) := h0.blk.cell 2
  have k3 : w0.cell? ⟨K, 3, none⟩ = some (.int .i64 t.cls) := h0.blk.cell 3
  have k4 : w0.cell? ⟨K, 4, none⟩ = some (.slice A t.levels.length c) := h0.blk.cell 4
  have k5 : w0.cell? ⟨K, 5, none⟩ = some (.slice B l.length d) := h0.blk.cell 5
  have k6 : w0.cell? ⟨K, 6, none⟩ = some (.int .i64 p) := h0.blk.cell 6
  have hd1 : decide ((p : Int) < (l.length : Int)) = false := by simp; omega
  have hge : l.length ≤ p := by omega
  have HW := Lib.hid hw0
  have hbr := fun w => brackets_is w t A t.levels.length c true hbk
  have Hbk := Lib.hid hbk
  clear hb0 hR0 h0 h f hr hno hw0 hbk hpe
  go_enter Tryd.func142, Tryd.ntmps142
  go_upto_region 1 with (fail)
  rw [← HW.out]
  refine wp_region_noPanic ?_
  refine wp_region_held_drew (S := (fun w' => w'.cell? ⟨K, 0, none⟩ = some (.int .i64 t.terms) ∧ w'.cell? ⟨K, 1, none⟩ = some (.int .i64 t.atom) ∧ w'.cell? ⟨K, 2, none⟩ = some (.int .i64 t.opn) ∧ w'.cell? ⟨K, 3, none⟩ = some (.int .i64 t.cls) ∧ w'.cell? ⟨K, 4, none⟩ = some (.slice A t.levels.length c) ∧ w'.cell? ⟨K, 5, none⟩ = some (.slice B l.length d) ∧ w'.cell? ⟨K, 6, none⟩ = some (.int .i64 p))) (by kernel_rfl) ?ha (fun hHeld => ?ba)
  case ha => ((try dsimp only); go_keep)
  refine take_run (i := 0) (v := ?va0) rfl (by kernel_rfl) (by kernel_rfl) (by kernel_rfl) (fun _ _ _ h => h) (by rfl) ?ya0 (by assumption) ?ra0
  case ya0 => (intro w hSw; (try dsimp only at hSw); go_simp; try with_reducible rfl)
  try simp only [Act.put, List.setIfInBounds_toArray, List.set_cons_zero, List.set_cons_succ]
  refine take_run (i := 1) (v := ?va1) rfl (by kernel_rfl) (by kernel_rfl) (by kernel_rfl) (fun _ _ _ h => h) (by rfl) ?ya1 (by assumption) ?ra1
  case ya1 => (intro w hSw; (try dsimp only at hSw); go_simp; try with_reducible rfl)
  try simp only [Act.put, List.setIfInBounds_toArray, List.set_cons_zero, List.set_cons_succ]
  refine take_run (i := 2) (v := ?va2) rfl (by kernel_rfl) (by kernel_rfl) (by kernel_rfl) (fun _ _ _ h => h) (by rfl) ?ya2 (by assumption) ?ra2
  case ya2 => (intro w hSw; (try dsimp only at hSw); go_simp; try with_reducible rfl)
  try simp only [Act.put, List.setIfInBounds_toArray, List.set_cons_zero, List.set_cons_succ]
  refine take_run (i := 3) (v := ?va3) rfl (by kernel_rfl) (by kernel_rfl) (by kernel_rfl) (fun _ _ _ h => h) (by rfl) ?ya3 (by assumption) ?ra3
  case ya3 => (intro w hSw; (try dsimp only at hSw); go_simp; try with_reducible rfl)
  try simp only [Act.put, List.setIfInBounds_toArray, List.set_cons_zero, List.set_cons_succ]
  refine take_call (i := 4) rfl (by kernel_rfl) (by rfl) (fun Kq hK => ?_)
  go_simp
  go_at_call 110
  refine (hbr _).mono ?_
  rintro e w1 ⟨rfl, hb1⟩
  have HB1 := Lib.hid (bundrew hb1)
  clear hb1
  have n0 := (HB1.out.cell (p := ⟨K, 0, none⟩) zK).trans k0
  have n1 := (HB1.out.cell (p := ⟨K, 1, none⟩) zK).trans k1
  have n2 := (HB1.out.cell (p := ⟨K, 2, none⟩) zK).trans k2
  have n3 := (HB1.out.cell (p := ⟨K, 3, none⟩) zK).trans k3
  have n4 := (HB1.out.cell (p := ⟨K, 4, none⟩) zK).trans k4
  have n5 := (HB1.out.cell (p := ⟨K, 5, none⟩) zK).trans k5
  have n6 := (HB1.out.cell (p := ⟨K, 6, none⟩) zK).trans k6
  refine hK.out _ _ ?ha4 (fun hHeld => ?ra4)
  case ha4 => ((try dsimp only); go_keep)
  clear hK Kq
  try simp only [Act.put, List.setIfInBounds_toArray, List.set_cons_zero, List.set_cons_succ]
  refine take_run (i := 5) (v := ?va5) rfl (by kernel_rfl) (by kernel_rfl) (by kernel_rfl) (fun _ _ _ h => h) (by rfl) ?ya5 (by assumption) ?ra5
  case ya5 => (intro w hSw; (try dsimp only at hSw); go_simp; try with_reducible rfl)
  try simp only [Act.put, List.setIfInBounds_toArray, List.set_cons_zero, List.set_cons_succ]
  refine take_run (i := 6) (v := ?va6) rfl (by kernel_rfl) (by kernel_rfl) (by kernel_rfl) (fun _ _ _ h => h) (by rfl) ?ya6 (by assumption) ?ra6
  case ya6 => (intro w hSw; (try dsimp only at hSw); go_simp; try with_reducible rfl)
  try simp only [Act.put, List.setIfInBounds_toArray, List.set_cons_zero, List.set_cons_succ]
  refine take_run (i := 7) (v := ?va7) rfl (by kernel_rfl) (by kernel_rfl) (by kernel_rfl) (fun _ _ _ h => h) (by rfl) ?ya7 (by assumption) ?ra7
  case ya7 => (intro w hSw; (try dsimp only at hSw); go_simp; try with_reducible rfl)
  try simp only [Act.put, List.setIfInBounds_toArray, List.set_cons_zero, List.set_cons_succ]
  refine take_run (i := 8) (v := ?va8) rfl (by kernel_rfl) (by kernel_rfl) (by kernel_rfl) (fun _ _ _ h => h) (by rfl) ?ya8 (by assumption) ?ra8
  case ya8 => (intro w hSw; (try dsimp only at hSw); go_simp; try with_reducible rfl)
  try simp only [Act.put, List.setIfInBounds_toArray, List.set_cons_zero, List.set_cons_succ]
  refine take_run (i := 9) (v := ?va9) rfl (by kernel_rfl) (by kernel_rfl) (by kernel_rfl) (fun _ _ _ h => h) (by rfl) ?ya9 (by assumption) ?ra9
  case ya9 => (intro w hSw; (try dsimp only at hSw); go_simp; try with_reducible rfl)
  try simp only [Act.put, List.setIfInBounds_toArray, List.set_cons_zero, List.set_cons_succ]
  refine take_run (i := 10) (v := ?va10) rfl (by kernel_rfl) (by kernel_rfl) (by kernel_rfl) (fun _ _ _ h => h) (by rfl) ?ya10 (by assumption) ?ra10
  case ya10 => (intro w hSw; (try dsimp only at hSw); go_simp; try with_reducible rfl)
  try simp only [Act.put, List.setIfInBounds_toArray, List.set_cons_zero, List.set_cons_succ]
  refine take_run (i := 11) (v := ?va11) rfl (by kernel_rfl) (by kernel_rfl) (by kernel_rfl) (fun _ _ _ h => h) (by rfl) ?ya11 (by assumption) ?ra11
  case ya11 => (intro w hSw; (try dsimp only at hSw); go_simp; try with_reducible rfl)
  try simp only [Act.put, List.setIfInBounds_toArray, List.set_cons_zero, List.set_cons_succ]
  refine take_run (i := 12) (v := ?va12) rfl (by kernel_rfl) (by kernel_rfl) (by kernel_rfl) (fun _ _ _ h => h) (by rfl) ?ya12 (by assumption) ?ra12
  case ya12 => (intro w hSw; (try dsimp only at hSw); go_simp; try with_reducible rfl)
  try simp only [Act.put, List.setIfInBounds_toArray, List.set_cons_zero, List.set_cons_succ]
  refine take_run (i := 13) (v := ?va13) rfl (by kernel_rfl) (by kernel_rfl) (by kernel_rfl) (fun _ _ _ h => h) (by rfl) ?ya13 (by assumption) ?ra13
  case ya13 => (intro w hSw; (try dsimp only at hSw); go_simp; try with_reducible rfl)
  try simp only [Act.put, List.setIfInBounds_toArray, List.set_cons_zero, List.set_cons_succ]
  refine take_run (i := 14) (v := ?va14) rfl (by kernel_rfl) (by kernel_rfl) (by kernel_rfl) (fun _ _ _ h => h) (by rfl) ?ya14 (by assumption) ?ra14
  case ya14 => (intro w hSw; (try dsimp only at hSw); go_simp; try with_reducible rfl)
  try simp only [Act.put, List.setIfInBounds_toArray, List.set_cons_zero, List.set_cons_succ]
  refine take_run (i := 15) (v := .bool false) rfl (by kernel_rfl) (by kernel_rfl) (by kernel_rfl) (fun _ _ _ h => h) (by rfl) ?ya15 (by assumption) ?ra15
  case ya15 => (intro w hSw; (try dsimp only at hSw); try go_simp; first | done | omega | (simp [hd1]; done) | trace_state)
  try simp only [Act.put, List.setIfInBounds_toArray, List.set_cons_zero, List.set_cons_succ]
  refine take_run (i := 16) (v := ?va16) rfl (by kernel_rfl) (by kernel_rfl) (by kernel_rfl) (fun _ _ _ h => h) (by rfl) ?ya16 (by assumption) ?ra16
  case ya16 => (intro w hSw; (try dsimp only at hSw); go_simp; try with_reducible rfl)
  try simp only [Act.put, List.setIfInBounds_toArray, List.set_cons_zero, List.set_cons_succ]
  refine take_run (i := 17) (v := ?va17) rfl (by kernel_rfl) (by kernel_rfl) (by kernel_rfl) (fun _ _ _ h => h) (by rfl) ?ya17 (by assumption) ?ra17
  case ya17 => (intro w hSw; (try dsimp only at hSw); go_simp; try with_reducible rfl)
  try simp only [Act.put, List.setIfInBounds_toArray, List.set_cons_zero, List.set_cons_succ]
  refine take_bar (i := 18) rfl (by kernel_rfl) (by kernel_rfl) (by kernel_rfl) (fun _ _ _ h => h) (by rfl) (by assumption) ?_
  try simp only [Act.put, List.setIfInBounds_toArray, List.set_cons_zero, List.set_cons_succ]
  refine take_bar (i := 19) rfl (by kernel_rfl) (by kernel_rfl) (by kernel_rfl) (fun _ _ _ h => h) (by rfl) (by assumption) ?_
  try simp only [Act.put, List.setIfInBounds_toArray, List.set_cons_zero, List.set_cons_succ]
  refine take_bar (i := 20) rfl (by kernel_rfl) (by kernel_rfl) (by kernel_rfl) (fun _ _ _ h => h) (by rfl) (by assumption) ?_
  try simp only [Act.put, List.setIfInBounds_toArray, List.set_cons_zero, List.set_cons_succ]
  refine take_bar (i := 21) rfl (by kernel_rfl) (by kernel_rfl) (by kernel_rfl) (fun _ _ _ h => h) (by rfl) (by assumption) ?_
  try simp only [Act.put, List.setIfInBounds_toArray, List.set_cons_zero, List.set_cons_succ]
  refine take_bar (i := 22) rfl (by kernel_rfl) (by kernel_rfl) (by kernel_rfl) (fun _ _ _ h => h) (by rfl) (by assumption) ?_
  try simp only [Act.put, List.setIfInBounds_toArray, List.set_cons_zero, List.set_cons_succ]
  refine take_bar (i := 23) rfl (by kernel_rfl) (by kernel_rfl) (by kernel_rfl) (fun _ _ _ h => h) (by rfl) (by assumption) ?_
  try simp only [Act.put, List.setIfInBounds_toArray, List.set_cons_zero, List.set_cons_succ]
  refine take_bar (i := 24) rfl (by kernel_rfl) (by kernel_rfl) (by kernel_rfl) (fun _ _ _ h => h) (by rfl) (by assumption) ?_
  try simp only [Act.put, List.setIfInBounds_toArray, List.set_cons_zero, List.set_cons_succ]
  refine take_bar (i := 25) rfl (by kernel_rfl) (by kernel_rfl) (by kernel_rfl) (fun _ _ _ h => h) (by rfl) (by assumption) ?_
  try simp only [Act.put, List.setIfInBounds_toArray, List.set_cons_zero, List.set_cons_succ]
  refine take_bar (i := 26) rfl (by kernel_rfl) (by kernel_rfl) (by kernel_rfl) (fun _ _ _ h => h) (by rfl) (by assumption) ?_
  try simp only [Act.put, List.setIfInBounds_toArray, List.set_cons_zero, List.set_cons_succ]
  refine take_bar (i := 27) rfl (by kernel_rfl) (by kernel_rfl) (by kernel_rfl) (fun _ _ _ h => h) (by rfl) (by assumption) ?_
  try simp only [Act.put, List.setIfInBounds_toArray, List.set_cons_zero, List.set_cons_succ]
  refine take_bar (i := 28) rfl (by kernel_rfl) (by kernel_rfl) (by kernel_rfl) (fun _ _ _ h => h) (by rfl) (by assumption) ?_
  try simp only [Act.put, List.setIfInBounds_toArray, List.set_cons_zero, List.set_cons_succ]
  refine take_bar (i := 29) rfl (by kernel_rfl) (by kernel_rfl) (by kernel_rfl) (fun _ _ _ h => h) (by rfl) (by assumption) ?_
  try simp only [Act.put, List.setIfInBounds_toArray, List.set_cons_zero, List.set_cons_succ]
  refine take_bar (i := 30) rfl (by kernel_rfl) (by kernel_rfl) (by kernel_rfl) (fun _ _ _ h => h) (by rfl) (by assumption) ?_
  try simp only [Act.put, List.setIfInBounds_toArray, List.set_cons_zero, List.set_cons_succ]
  refine take_bar (i := 31) rfl (by kernel_rfl) (by kernel_rfl) (by kernel_rfl) (fun _ _ _ h => h) (by rfl) (by assumption) ?_
  try simp only [Act.put, List.setIfInBounds_toArray, List.set_cons_zero, List.set_cons_succ]
  refine take_bar (i := 32) rfl (by kernel_rfl) (by kernel_rfl) (by kernel_rfl) (fun _ _ _ h => h) (by rfl) (by assumption) ?_
  try simp only [Act.put, List.setIfInBounds_toArray, List.set_cons_zero, List.set_cons_succ]
  refine take_bar (i := 33) rfl (by kernel_rfl) (by kernel_rfl) (by kernel_rfl) (fun _ _ _ h => h) (by rfl) (by assumption) ?_
  try simp only [Act.put, List.setIfInBounds_toArray, List.set_cons_zero, List.set_cons_succ]
  refine take_run (i := 34) (v := ?va34) rfl (by kernel_rfl) (by kernel_rfl) (by kernel_rfl) (fun _ _ _ h => h) (by rfl) ?ya34 (by assumption) ?ra34
  case ya34 => (intro w hSw; (try dsimp only at hSw); go_simp; try with_reducible rfl)
  try simp only [Act.put, List.setIfInBounds_toArray, List.set_cons_zero, List.set_cons_succ]
  refine wpAnyH_done (by kernel_rfl) ?_ _
  refine NoPanic.normal ?_
  go_wp2_with fail
  have h1 := H0.out.below HB1.out
  have HH1 := Lib.hid h1
  have HK1 := Lib.hid ((Kept.of_below (fun b => b = K) HB0.out).trans (Kept.of_below (fun b => b = K) HB1.out))
  clear k0 k1 k2 k3 k4 k5 k6 n0 n1 n2 n3 n4 n5 n6 hHeld h1
  cases Hr.out with
  | atom ha hb =>
    refine (take_hit K t.terms t.atom t.opn t.cls t.atom _ _ l B d p S w1 F.out.small HH1.out.blk hb HH1.out.word).mono ?_
    rintro e w2 ⟨rfl, hK2, hk2⟩
    have hR2 := (HR0.out.below HB1.out HR0.out.lt).kept hk2 (by omega)
    have HK2 := Lib.hid (And.intro hK2 hk2)
    have HR2 := Lib.hid hR2
    have HI := Lib.hid (els_i64 HH1.out.word hb)
    have HP := Lib.hid (List.getElem?_eq_some_iff.1 hb).1
    have s0 := hR2.cell 0
    have s1 := hR2.cell 1
    have s2 := hR2.cell 2
    have r0 := hR2.frozen 0
    have r1 := hR2.frozen 1
    have r2 := hR2.frozen 2
    have z2 := hR2.lt
    clear hK2 hk2 hR2 hb ha
    simp at s0 s1 s2
    go_wp2_with fail
    generalize hwF : World.alloc _ _ = wF
    obtain ⟨⟨⟨u0, u1, u2⟩, hC, hKw⟩, hN, hz, hKF⟩ := node_fin HH.out F.out (HK1.out.trans HK2.out.2) HK2.out.1 (by have := HP.out; omega) HR2.out (Nat.le_refl _) hwF.symm
    clear hwF
    refine bodyPost_ret (v := .agg #[.int .i64 0, .int .i64 0, .slice (some ⟨w2.heap.size, 0, none⟩) 1 1]) (by simp [results, Tryd.results142, go_sem, u0, u1, u2]) rfl ⟨⟨_, 1, rfl, i64_0, i64_0, Nat.le_refl _, by omega, ?_⟩, hC, hKw⟩
    exact els_one (cs := [_, _, _]) hN (rd_leaf HI.out) ⟨by omega, by omega⟩
  | none ha hb =>
    refine (take_rej K t.terms t.atom t.opn t.cls t.atom _ _ l B d p S w1 F.out.small hle HH1.out.blk hb HH1.out.word).mono ?_
    rintro e w2 ⟨rfl, hb2⟩
    exact ⟨rfl, rfl, HH1.out.below hb2, HK1.out.below hb2⟩
  | brk hb ho => exact absurd ⟨hb, ho⟩ Hno.out
  | brkNo hb ho => exact absurd ⟨hb, ho⟩ Hno.out
  | brkRej hb ho => exact absurd ⟨hb, ho⟩ Hno.out

set_option maxRecDepth 100000 in
set_option maxHeartbeats 1000000 in
/-- Another terminal is next: up to the atom. -/
theorem opd_plain_c {t : Table} {l : List Int} {K : Nat} {A : Option Addr} {c : Nat} {B : Option Addr} {d M mn : Nat} {D : DataW Unit} {S St : Nat → Prop} {p : Nat} {w : World} (P : Nat → Nat → Res → Prop) (h : ClW t l K A c B d M mn D S St p w) (f : ClF t l K M D S St) (hbk : brk t = true) {o : Int} (ho : l[p]? = some o) (hoo : o ≠ t.opn) (hno : ¬ (brk t = true ∧ l[p]? = some t.opn)) (r : Res) (hr : Opd t l P p r) :
    Calls Tryd.prog 142 #[.pointer (some ⟨K, 0, none⟩)] w (RetP (ClW t l K A c B d M mn D S St) K r w) := by
  obtain ⟨bx, ox, rfl, hSx, hbx, hxi, hxc0⟩ := h.word.int ho
  have hp9 : p < l.length := (List.getElem?_eq_some_iff.1 ho).1
  obtain ⟨w0, hw0⟩ : ∃ w0 : World, w0 = w.alloc (.cells #[.int .i64 0, .int .i64 0, .slice none 0 0] 27) := ⟨_, rfl⟩
  have hb0 : Below w.heap.size w w0 := by rw [hw0]; exact (Below.refl _ _).alloc (Nat.le_refl _) _
  have hR0 : Blk' w0 w.heap.size 27 #[.int .i64 0, .int .i64 0, .slice none 0 0] := by rw [hw0]; exact Blk'.new w _ _
  have h0 := h.below hb0
  have HB0 := Lib.hid hb0
  have HR0 := Lib.hid hR0
  have H0 := Lib.hid h0
  have F := Lib.hid f
  have HH := Lib.hid h
  have zK : K < w0.heap.size := h0.blk.lt
  have zR : w.heap.size < w0.heap.size := hR0.lt
  have hsm := f.small
  have hle := h.le
  have zKR : K < w.heap.size := h.blk.lt
  have Hr := Lib.hid hr
  have Hno := Lib.hid hno
  have k0 : w0.cell? ⟨K, 0, none⟩ = some (.int .i64 t.terms) := h0.blk.cell 0
  have k1 : w0.cell? ⟨K, 1, none⟩ = some (.int .i64 t.atom) := h0.blk.cell 1
  have k2 : w0.cell? ⟨K, 2, none⟩ = some (.int .i64 t.opn) := h0.blk.cell 2
  have k3 : w0.cell? ⟨K, 3, none⟩ = some (.int .i64 t.cls) := h0.blk.cell 3
  have k4 : w0.cell? ⟨K, 4, none⟩ = some (.slice A t.levels.length c) := h0.blk.cell 4
  have k5 : w0.cell? ⟨K, 5, none⟩ = some (.slice (some ⟨bx, ox, none⟩) l.length d) := h0.blk.cell 5
  have k6 : w0.cell? ⟨K, 6, none⟩ = some (.int .i64 p) := h0.blk.cell 6
  have kx : w0.cell? ⟨bx, ox + p, none⟩ = some (.int .i64 o) := (hb0.cell hbx).trans hxc0
  have zx : bx < w0.heap.size := by omega
  have hp0 : (0 : Int) ≤ (p : Int) := by omega
  have hp99 : (p : Int) < (l.length : Int) := by omega
  have hd1 : decide ((p : Int) < (l.length : Int)) = true := by simp; omega
  have hd2 : (o == t.opn) = false := by simp [hoo]
  clear hxc0 hSx hxi hbx
  have HW := Lib.hid hw0
  have hbr := fun w => brackets_is w t A t.levels.length c true hbk
  have Hbk := Lib.hid hbk
  clear hb0 hR0 h0 h f hr hno hw0 hbk ho hoo
  go_enter Tryd.func142, Tryd.ntmps142
  go_upto_region 1 with (fail)
  rw [← HW.out]
  refine wp_region_noPanic ?_
  refine wp_region_held_drew (S := (fun w' => w'.cell? ⟨K, 0, none⟩ = some (.int .i64 t.terms) ∧ w'.cell? ⟨K, 1, none⟩ = some (.int .i64 t.atom) ∧ w'.cell? ⟨K, 2, none⟩ = some (.int .i64 t.opn) ∧ w'.cell? ⟨K, 3, none⟩ = some (.int .i64 t.cls) ∧ w'.cell? ⟨K, 4, none⟩ = some (.slice A t.levels.length c) ∧ w'.cell? ⟨K, 5, none⟩ = some (.slice (some ⟨bx, ox, none⟩) l.length d) ∧ w'.cell? ⟨K, 6, none⟩ = some (.int .i64 p) ∧ w'.cell? ⟨bx, ox + p, none⟩ = some (.int .i64 o))) (by kernel_rfl) ?ha (fun hHeld => ?ba)
  case ha => ((try dsimp only); go_keep)
  refine take_run (i := 0) (v := ?va0) rfl (by kernel_rfl) (by kernel_rfl) (by kernel_rfl) (fun _ _ _ h => h) (by rfl) ?ya0 (by assumption) ?ra0
  case ya0 => (intro w hSw; (try dsimp only at hSw); go_simp; try with_reducible rfl)
  try simp only [Act.put, List.setIfInBounds_toArray, List.set_cons_zero, List.set_cons_succ]
  refine take_run (i := 1) (v := ?va1) rfl (by kernel_rfl) (by kernel_rfl) (by kernel_rfl) (fun _ _ _ h => h) (by rfl) ?ya1 (by assumption) ?ra1
  case ya1 => (intro w hSw; (try dsimp only at hSw); go_simp; try with_reducible rfl)
  try simp only [Act.put, List.setIfInBounds_toArray, List.set_cons_zero, List.set_cons_succ]
  refine take_run (i := 2) (v := ?va2) rfl (by kernel_rfl) (by kernel_rfl) (by kernel_rfl) (fun _ _ _ h => h) (by rfl) ?ya2 (by assumption) ?ra2
  case ya2 => (intro w hSw; (try dsimp only at hSw); go_simp; try with_reducible rfl)
  try simp only [Act.put, List.setIfInBounds_toArray, List.set_cons_zero, List.set_cons_succ]
  refine take_run (i := 3) (v := ?va3) rfl (by kernel_rfl) (by kernel_rfl) (by kernel_rfl) (fun _ _ _ h => h) (by rfl) ?ya3 (by assumption) ?ra3
  case ya3 => (intro w hSw; (try dsimp only at hSw); go_simp; try with_reducible rfl)
  try simp only [Act.put, List.setIfInBounds_toArray, List.set_cons_zero, List.set_cons_succ]
  refine take_call (i := 4) rfl (by kernel_rfl) (by rfl) (fun Kq hK => ?_)
  go_simp
  go_at_call 110
  refine (hbr _).mono ?_
  rintro e w1 ⟨rfl, hb1⟩
  have HB1 := Lib.hid (bundrew hb1)
  clear hb1
  have n0 := (HB1.out.cell (p := ⟨K, 0, none⟩) zK).trans k0
  have n1 := (HB1.out.cell (p := ⟨K, 1, none⟩) zK).trans k1
  have n2 := (HB1.out.cell (p := ⟨K, 2, none⟩) zK).trans k2
  have n3 := (HB1.out.cell (p := ⟨K, 3, none⟩) zK).trans k3
  have n4 := (HB1.out.cell (p := ⟨K, 4, none⟩) zK).trans k4
  have n5 := (HB1.out.cell (p := ⟨K, 5, none⟩) zK).trans k5
  have n6 := (HB1.out.cell (p := ⟨K, 6, none⟩) zK).trans k6
  have nx := (HB1.out.cell (p := ⟨bx, ox + p, none⟩) zx).trans kx
  refine hK.out _ _ ?ha4 (fun hHeld => ?ra4)
  case ha4 => ((try dsimp only); go_keep)
  clear hK Kq
  try simp only [Act.put, List.setIfInBounds_toArray, List.set_cons_zero, List.set_cons_succ]
  refine take_run (i := 5) (v := ?va5) rfl (by kernel_rfl) (by kernel_rfl) (by kernel_rfl) (fun _ _ _ h => h) (by rfl) ?ya5 (by assumption) ?ra5
  case ya5 => (intro w hSw; (try dsimp only at hSw); go_simp; try with_reducible rfl)
  try simp only [Act.put, List.setIfInBounds_toArray, List.set_cons_zero, List.set_cons_succ]
  refine take_run (i := 6) (v := ?va6) rfl (by kernel_rfl) (by kernel_rfl) (by kernel_rfl) (fun _ _ _ h => h) (by rfl) ?ya6 (by assumption) ?ra6
  case ya6 => (intro w hSw; (try dsimp only at hSw); go_simp; try with_reducible rfl)
  try simp only [Act.put, List.setIfInBounds_toArray, List.set_cons_zero, List.set_cons_succ]
  refine take_run (i := 7) (v := ?va7) rfl (by kernel_rfl) (by kernel_rfl) (by kernel_rfl) (fun _ _ _ h => h) (by rfl) ?ya7 (by assumption) ?ra7
  case ya7 => (intro w hSw; (try dsimp only at hSw); go_simp; try with_reducible rfl)
  try simp only [Act.put, List.setIfInBounds_toArray, List.set_cons_zero, List.set_cons_succ]
  refine take_run (i := 8) (v := ?va8) rfl (by kernel_rfl) (by kernel_rfl) (by kernel_rfl) (fun _ _ _ h => h) (by rfl) ?ya8 (by assumption) ?ra8
  case ya8 => (intro w hSw; (try dsimp only at hSw); go_simp; try with_reducible rfl)
  try simp only [Act.put, List.setIfInBounds_toArray, List.set_cons_zero, List.set_cons_succ]
  refine take_run (i := 9) (v := ?va9) rfl (by kernel_rfl) (by kernel_rfl) (by kernel_rfl) (fun _ _ _ h => h) (by rfl) ?ya9 (by assumption) ?ra9
  case ya9 => (intro w hSw; (try dsimp only at hSw); go_simp; try with_reducible rfl)
  try simp only [Act.put, List.setIfInBounds_toArray, List.set_cons_zero, List.set_cons_succ]
  refine take_run (i := 10) (v := ?va10) rfl (by kernel_rfl) (by kernel_rfl) (by kernel_rfl) (fun _ _ _ h => h) (by rfl) ?ya10 (by assumption) ?ra10
  case ya10 => (intro w hSw; (try dsimp only at hSw); go_simp; try with_reducible rfl)
  try simp only [Act.put, List.setIfInBounds_toArray, List.set_cons_zero, List.set_cons_succ]
  refine take_run (i := 11) (v := ?va11) rfl (by kernel_rfl) (by kernel_rfl) (by kernel_rfl) (fun _ _ _ h => h) (by rfl) ?ya11 (by assumption) ?ra11
  case ya11 => (intro w hSw; (try dsimp only at hSw); go_simp; try with_reducible rfl)
  try simp only [Act.put, List.setIfInBounds_toArray, List.set_cons_zero, List.set_cons_succ]
  refine take_run (i := 12) (v := ?va12) rfl (by kernel_rfl) (by kernel_rfl) (by kernel_rfl) (fun _ _ _ h => h) (by rfl) ?ya12 (by assumption) ?ra12
  case ya12 => (intro w hSw; (try dsimp only at hSw); go_simp; try with_reducible rfl)
  try simp only [Act.put, List.setIfInBounds_toArray, List.set_cons_zero, List.set_cons_succ]
  refine take_run (i := 13) (v := ?va13) rfl (by kernel_rfl) (by kernel_rfl) (by kernel_rfl) (fun _ _ _ h => h) (by rfl) ?ya13 (by assumption) ?ra13
  case ya13 => (intro w hSw; (try dsimp only at hSw); go_simp; try with_reducible rfl)
  try simp only [Act.put, List.setIfInBounds_toArray, List.set_cons_zero, List.set_cons_succ]
  refine take_run (i := 14) (v := ?va14) rfl (by kernel_rfl) (by kernel_rfl) (by kernel_rfl) (fun _ _ _ h => h) (by rfl) ?ya14 (by assumption) ?ra14
  case ya14 => (intro w hSw; (try dsimp only at hSw); go_simp; try with_reducible rfl)
  try simp only [Act.put, List.setIfInBounds_toArray, List.set_cons_zero, List.set_cons_succ]
  refine take_run (i := 15) (v := .bool true) rfl (by kernel_rfl) (by kernel_rfl) (by kernel_rfl) (fun _ _ _ h => h) (by rfl) ?ya15 (by assumption) ?ra15
  case ya15 => (intro w hSw; (try dsimp only at hSw); try go_simp; first | done | omega | (simp [hd1]; done) | trace_state)
  try simp only [Act.put, List.setIfInBounds_toArray, List.set_cons_zero, List.set_cons_succ]
  refine take_run (i := 16) (v := ?va16) rfl (by kernel_rfl) (by kernel_rfl) (by kernel_rfl) (fun _ _ _ h => h) (by rfl) ?ya16 (by assumption) ?ra16
  case ya16 => (intro w hSw; (try dsimp only at hSw); go_simp; try with_reducible rfl)
  try simp only [Act.put, List.setIfInBounds_toArray, List.set_cons_zero, List.set_cons_succ]
  refine take_run (i := 17) (v := ?va17) rfl (by kernel_rfl) (by kernel_rfl) (by kernel_rfl) (fun _ _ _ h => h) (by rfl) ?ya17 (by assumption) ?ra17
  case ya17 => (intro w hSw; (try dsimp only at hSw); go_simp; try with_reducible rfl)
  try simp only [Act.put, List.setIfInBounds_toArray, List.set_cons_zero, List.set_cons_succ]
  refine take_run (i := 18) (v := ?va18) rfl (by kernel_rfl) (by kernel_rfl) (by kernel_rfl) (fun _ _ _ h => h) (by rfl) ?ya18 (by assumption) ?ra18
  case ya18 => (intro w hSw; (try dsimp only at hSw); go_simp; try with_reducible rfl)
  try simp only [Act.put, List.setIfInBounds_toArray, List.set_cons_zero, List.set_cons_succ]
  refine take_run (i := 19) (v := ?va19) rfl (by kernel_rfl) (by kernel_rfl) (by kernel_rfl) (fun _ _ _ h => h) (by rfl) ?ya19 (by assumption) ?ra19
  case ya19 => (intro w hSw; (try dsimp only at hSw); go_simp; try with_reducible rfl)
  try simp only [Act.put, List.setIfInBounds_toArray, List.set_cons_zero, List.set_cons_succ]
  refine take_run (i := 20) (v := ?va20) rfl (by kernel_rfl) (by kernel_rfl) (by kernel_rfl) (fun _ _ _ h => h) (by rfl) ?ya20 (by assumption) ?ra20
  case ya20 => (intro w hSw; (try dsimp only at hSw); go_simp; try with_reducible rfl)
  try simp only [Act.put, List.setIfInBounds_toArray, List.set_cons_zero, List.set_cons_succ]
  refine take_run (i := 21) (v := ?va21) rfl (by kernel_rfl) (by kernel_rfl) (by kernel_rfl) (fun _ _ _ h => h) (by rfl) ?ya21 (by assumption) ?ra21
  case ya21 => (intro w hSw; (try dsimp only at hSw); go_simp; try with_reducible rfl)
  try simp only [Act.put, List.setIfInBounds_toArray, List.set_cons_zero, List.set_cons_succ]
  refine take_run (i := 22) (v := ?va22) rfl (by kernel_rfl) (by kernel_rfl) (by kernel_rfl) (fun _ _ _ h => h) (by rfl) ?ya22 (by assumption) ?ra22
  case ya22 => (intro w hSw; (try dsimp only at hSw); go_simp; try with_reducible rfl)
  try simp only [Act.put, List.setIfInBounds_toArray, List.set_cons_zero, List.set_cons_succ]
  refine take_run (i := 23) (v := ?va23) rfl (by kernel_rfl) (by kernel_rfl) (by kernel_rfl) (fun _ _ _ h => h) (by rfl) ?ya23 (by assumption) ?ra23
  case ya23 => (intro w hSw; (try dsimp only at hSw); go_simp; try with_reducible rfl)
  try simp only [Act.put, List.setIfInBounds_toArray, List.set_cons_zero, List.set_cons_succ]
  refine take_run (i := 24) (v := ?va24) rfl (by kernel_rfl) (by kernel_rfl) (by kernel_rfl) (fun _ _ _ h => h) (by rfl) ?ya24 (by assumption) ?ra24
  case ya24 => (intro w hSw; (try dsimp only at hSw); go_simp; try with_reducible rfl)
  try simp only [Act.put, List.setIfInBounds_toArray, List.set_cons_zero, List.set_cons_succ]
  refine take_run (i := 25) (v := ?va25) rfl (by kernel_rfl) (by kernel_rfl) (by kernel_rfl) (fun _ _ _ h => h) (by rfl) ?ya25 (by assumption) ?ra25
  case ya25 => (intro w hSw; (try dsimp only at hSw); go_simp; try with_reducible rfl)
  try simp only [Act.put, List.setIfInBounds_toArray, List.set_cons_zero, List.set_cons_succ]
  refine take_run (i := 26) (v := ?va26) rfl (by kernel_rfl) (by kernel_rfl) (by kernel_rfl) (fun _ _ _ h => h) (by rfl) ?ya26 (by assumption) ?ra26
  case ya26 => (intro w hSw; (try dsimp only at hSw); go_simp; try with_reducible rfl)
  try simp only [Act.put, List.setIfInBounds_toArray, List.set_cons_zero, List.set_cons_succ]
  refine take_run (i := 27) (v := ?va27) rfl (by kernel_rfl) (by kernel_rfl) (by kernel_rfl) (fun _ _ _ h => h) (by rfl) ?ya27 (by assumption) ?ra27
  case ya27 => (intro w hSw; (try dsimp only at hSw); go_simp; try with_reducible rfl)
  try simp only [Act.put, List.setIfInBounds_toArray, List.set_cons_zero, List.set_cons_succ]
  refine take_run (i := 28) (v := ?va28) rfl (by kernel_rfl) (by kernel_rfl) (by kernel_rfl) (fun _ _ _ h => h) (by rfl) ?ya28 (by assumption) ?ra28
  case ya28 => (intro w hSw; (try dsimp only at hSw); go_simp; try with_reducible rfl)
  try simp only [Act.put, List.setIfInBounds_toArray, List.set_cons_zero, List.set_cons_succ]
  refine take_run (i := 29) (v := ?va29) rfl (by kernel_rfl) (by kernel_rfl) (by kernel_rfl) (fun _ _ _ h => h) (by rfl) ?ya29 (by assumption) ?ra29
  case ya29 => (intro w hSw; (try dsimp only at hSw); go_simp; try with_reducible rfl)
  try simp only [Act.put, List.setIfInBounds_toArray, List.set_cons_zero, List.set_cons_succ]
  refine take_run (i := 30) (v := ?va30) rfl (by kernel_rfl) (by kernel_rfl) (by kernel_rfl) (fun _ _ _ h => h) (by rfl) ?ya30 (by assumption) ?ra30
  case ya30 => (intro w hSw; (try dsimp only at hSw); go_simp; try with_reducible rfl)
  try simp only [Act.put, List.setIfInBounds_toArray, List.set_cons_zero, List.set_cons_succ]
  refine take_run (i := 31) (v := ?va31) rfl (by kernel_rfl) (by kernel_rfl) (by kernel_rfl) (fun _ _ _ h => h) (by rfl) ?ya31 (by assumption) ?ra31
  case ya31 => (intro w hSw; (try dsimp only at hSw); go_simp; try with_reducible rfl)
  try simp only [Act.put, List.setIfInBounds_toArray, List.set_cons_zero, List.set_cons_succ]
  refine take_run (i := 32) (v := ?va32) rfl (by kernel_rfl) (by kernel_rfl) (by kernel_rfl) (fun _ _ _ h => h) (by rfl) ?ya32 (by assumption) ?ra32
  case ya32 => (intro w hSw; (try dsimp only at hSw); go_simp; try with_reducible rfl)
  try simp only [Act.put, List.setIfInBounds_toArray, List.set_cons_zero, List.set_cons_succ]
  refine take_run (i := 33) (v := .bool false) rfl (by kernel_rfl) (by kernel_rfl) (by kernel_rfl) (fun _ _ _ h => h) (by rfl) ?ya33 (by assumption) ?ra33
  case ya33 => (intro w hSw; (try dsimp only at hSw); try go_simp; first | done | omega | (simp [hd2]; done) | trace_state)
  try simp only [Act.put, List.setIfInBounds_toArray, List.set_cons_zero, List.set_cons_succ]
  refine take_run (i := 34) (v := ?va34) rfl (by kernel_rfl) (by kernel_rfl) (by kernel_rfl) (fun _ _ _ h => h) (by rfl) ?ya34 (by assumption) ?ra34
  case ya34 => (intro w hSw; (try dsimp only at hSw); go_simp; try with_reducible rfl)
  try simp only [Act.put, List.setIfInBounds_toArray, List.set_cons_zero, List.set_cons_succ]
  refine wpAnyH_done (by kernel_rfl) ?_ _
  refine NoPanic.normal ?_
  go_wp2_with fail
  have h1 := H0.out.below HB1.out
  have HH1 := Lib.hid h1
  have HK1 := Lib.hid ((Kept.of_below (fun b => b = K) HB0.out).trans (Kept.of_below (fun b => b = K) HB1.out))
  clear k0 k1 k2 k3 k4 k5 k6 n0 n1 n2 n3 n4 n5 n6 nx kx hHeld h1
  cases Hr.out with
  | atom ha hb =>
    refine (take_hit K t.terms t.atom t.opn t.cls t.atom _ _ l _ d p S w1 F.out.small HH1.out.blk hb HH1.out.word).mono ?_
    rintro e w2 ⟨rfl, hK2, hk2⟩
    have hR2 := (HR0.out.below HB1.out HR0.out.lt).kept hk2 (by omega)
    have HK2 := Lib.hid (And.intro hK2 hk2)
    have HR2 := Lib.hid hR2
    have HI := Lib.hid (els_i64 HH1.out.word hb)
    have HP := Lib.hid (List.getElem?_eq_some_iff.1 hb).1
    have s0 := hR2.cell 0
    have s1 := hR2.cell 1
    have s2 := hR2.cell 2
    have r0 := hR2.frozen 0
    have r1 := hR2.frozen 1
    have r2 := hR2.frozen 2
    have z2 := hR2.lt
    clear hK2 hk2 hR2 hb ha
    simp at s0 s1 s2
    go_wp2_with fail
    generalize hwF : World.alloc _ _ = wF
    obtain ⟨⟨⟨u0, u1, u2⟩, hC, hKw⟩, hN, hz, hKF⟩ := node_fin HH.out F.out (HK1.out.trans HK2.out.2) HK2.out.1 (by have := HP.out; omega) HR2.out (Nat.le_refl _) hwF.symm
    clear hwF
    refine bodyPost_ret (v := .agg #[.int .i64 0, .int .i64 0, .slice (some ⟨w2.heap.size, 0, none⟩) 1 1]) (by simp [results, Tryd.results142, go_sem, u0, u1, u2]) rfl ⟨⟨_, 1, rfl, i64_0, i64_0, Nat.le_refl _, by omega, ?_⟩, hC, hKw⟩
    exact els_one (cs := [_, _, _]) hN (rd_leaf HI.out) ⟨by omega, by omega⟩
  | none ha hb =>
    refine (take_rej K t.terms t.atom t.opn t.cls t.atom _ _ l _ d p S w1 F.out.small hle HH1.out.blk hb HH1.out.word).mono ?_
    rintro e w2 ⟨rfl, hb2⟩
    exact ⟨rfl, rfl, HH1.out.below hb2, HK1.out.below hb2⟩
  | brk hb ho => exact absurd ⟨hb, ho⟩ Hno.out
  | brkNo hb ho => exact absurd ⟨hb, ho⟩ Hno.out
  | brkRej hb ho => exact absurd ⟨hb, ho⟩ Hno.out

set_option maxRecDepth 100000 in
set_option maxHeartbeats 2000000 in
/-- A bracket opens. -/
theorem opd_brk {t : Table} {l : List Int} {K : Nat} {A : Option Addr} {c : Nat} {B : Option Addr} {d M mn : Nat} {D : DataW Unit} {S St : Nat → Prop} {p : Nat} {w : World} (P : Nat → Nat → Res → Prop) (h : ClW t l K A c B d M mn D S St p w) (f : ClF t l K M D S St) (hP : ∀ (p1 : Nat) (r1 : Res) (w1 : World), P 0 p1 r1 → ClW t l K A c B d M mn D S St p1 w1 → Calls Tryd.prog 115 #[.pointer (some ⟨K, 0, none⟩), .int .i64 0] w1 (RetP (ClW t l K A c B d M mn D S St) K r1 w1)) (hbk : brk t = true) (ho : l[p]? = some t.opn) (r : Res) (hr : Opd t l P p r) :
    Calls Tryd.prog 142 #[.pointer (some ⟨K, 0, none⟩)] w (RetP (ClW t l K A c B d M mn D S St) K r w) := by
  have HE := Lib.hid (els_i64 h.word ho)
  obtain ⟨bx, ox, hBx, hSx, hbx, hxi, hxc0⟩ := h.word.int ho
  subst hBx
  have hp9 : p < l.length := (List.getElem?_eq_some_iff.1 ho).1
  have HP := Lib.hid hP
  have HO := Lib.hid ho
  clear hP
  obtain ⟨w0, hw0⟩ : ∃ w0 : World, w0 = w.alloc (.cells #[.int .i64 0, .int .i64 0, .slice none 0 0] 27) := ⟨_, rfl⟩
  have hb0 : Below w.heap.size w w0 := by rw [hw0]; exact (Below.refl _ _).alloc (Nat.le_refl _) _
  have hR0 : Blk' w0 w.heap.size 27 #[.int .i64 0, .int .i64 0, .slice none 0 0] := by rw [hw0]; exact Blk'.new w _ _
  have h0 := h.below hb0
  have HB0 := Lib.hid hb0
  have HR0 := Lib.hid hR0
  have H0 := Lib.hid h0
  have F := Lib.hid f
  have HH := Lib.hid h
  have zK : K < w0.heap.size := h0.blk.lt
  have zR : w.heap.size < w0.heap.size := hR0.lt
  have hsm := f.small
  have hle := h.le
  have zKR : K < w.heap.size := h.blk.lt
  have Hr := Lib.hid hr
  have k0 : w0.cell? ⟨K, 0, none⟩ = some (.int .i64 t.terms) := h0.blk.cell 0
  have k1 : w0.cell? ⟨K, 1, none⟩ = some (.int .i64 t.atom) := h0.blk.cell 1
  have k2 : w0.cell? ⟨K, 2, none⟩ = some (.int .i64 t.opn) := h0.blk.cell 2
  have k3 : w0.cell? ⟨K, 3, none⟩ = some (.int .i64 t.cls) := h0.blk.cell 3
  have k4 : w0.cell? ⟨K, 4, none⟩ = some (.slice A t.levels.length c) := h0.blk.cell 4
  have k5 : w0.cell? ⟨K, 5, none⟩ = some (.slice (some ⟨bx, ox, none⟩) l.length d) := h0.blk.cell 5
  have k6 : w0.cell? ⟨K, 6, none⟩ = some (.int .i64 p) := h0.blk.cell 6
  have kx : w0.cell? ⟨bx, ox + p, none⟩ = some (.int .i64 t.opn) := (hb0.cell hbx).trans hxc0
  have zx : bx < w0.heap.size := by omega
  have hp0 : (0 : Int) ≤ (p : Int) := by omega
  have hp99 : (p : Int) < (l.length : Int) := by omega
  have hd1 : decide ((p : Int) < (l.length : Int)) = true := by simp; omega
  have hd2 : (t.opn == t.opn) = true := by simp
  clear hxc0 hSx hxi hbx
  have HW := Lib.hid hw0
  have hbr := fun w => brackets_is w t A t.levels.length c true hbk
  have Hbk := Lib.hid hbk
  clear hb0 hR0 h0 h f hr hw0 hbk ho
  go_enter Tryd.func142, Tryd.ntmps142
  go_upto_region 1 with (fail)
  rw [← HW.out]
  refine wp_region_noPanic ?_
  refine wp_region_held_drew (S := (fun w' => w'.cell? ⟨K, 0, none⟩ = some (.int .i64 t.terms) ∧ w'.cell? ⟨K, 1, none⟩ = some (.int .i64 t.atom) ∧ w'.cell? ⟨K, 2, none⟩ = some (.int .i64 t.opn) ∧ w'.cell? ⟨K, 3, none⟩ = some (.int .i64 t.cls) ∧ w'.cell? ⟨K, 4, none⟩ = some (.slice A t.levels.length c) ∧ w'.cell? ⟨K, 5, none⟩ = some (.slice (some ⟨bx, ox, none⟩) l.length d) ∧ w'.cell? ⟨K, 6, none⟩ = some (.int .i64 p) ∧ w'.cell? ⟨bx, ox + p, none⟩ = some (.int .i64 t.opn))) (by kernel_rfl) ?ha (fun hHeld => ?ba)
  case ha => ((try dsimp only); go_keep)
  refine take_run (i := 0) (v := ?va0) rfl (by kernel_rfl) (by kernel_rfl) (by kernel_rfl) (fun _ _ _ h => h) (by rfl) ?ya0 (by assumption) ?ra0
  case ya0 => (intro w hSw; (try dsimp only at hSw); go_simp; try with_reducible rfl)
  try simp only [Act.put, List.setIfInBounds_toArray, List.set_cons_zero, List.set_cons_succ]
  refine take_run (i := 1) (v := ?va1) rfl (by kernel_rfl) (by kernel_rfl) (by kernel_rfl) (fun _ _ _ h => h) (by rfl) ?ya1 (by assumption) ?ra1
  case ya1 => (intro w hSw; (try dsimp only at hSw); go_simp; try with_reducible rfl)
  try simp only [Act.put, List.setIfInBounds_toArray, List.set_cons_zero, List.set_cons_succ]
  refine take_run (i := 2) (v := ?va2) rfl (by kernel_rfl) (by kernel_rfl) (by kernel_rfl) (fun _ _ _ h => h) (by rfl) ?ya2 (by assumption) ?ra2
  case ya2 => (intro w hSw; (try dsimp only at hSw); go_simp; try with_reducible rfl)
  try simp only [Act.put, List.setIfInBounds_toArray, List.set_cons_zero, List.set_cons_succ]
  refine take_run (i := 3) (v := ?va3) rfl (by kernel_rfl) (by kernel_rfl) (by kernel_rfl) (fun _ _ _ h => h) (by rfl) ?ya3 (by assumption) ?ra3
  case ya3 => (intro w hSw; (try dsimp only at hSw); go_simp; try with_reducible rfl)
  try simp only [Act.put, List.setIfInBounds_toArray, List.set_cons_zero, List.set_cons_succ]
  refine take_call (i := 4) rfl (by kernel_rfl) (by rfl) (fun Kq hK => ?_)
  go_simp
  go_at_call 110
  refine (hbr _).mono ?_
  rintro e w1 ⟨rfl, hb1⟩
  have HB1 := Lib.hid (bundrew hb1)
  clear hb1
  have n0 := (HB1.out.cell (p := ⟨K, 0, none⟩) zK).trans k0
  have n1 := (HB1.out.cell (p := ⟨K, 1, none⟩) zK).trans k1
  have n2 := (HB1.out.cell (p := ⟨K, 2, none⟩) zK).trans k2
  have n3 := (HB1.out.cell (p := ⟨K, 3, none⟩) zK).trans k3
  have n4 := (HB1.out.cell (p := ⟨K, 4, none⟩) zK).trans k4
  have n5 := (HB1.out.cell (p := ⟨K, 5, none⟩) zK).trans k5
  have n6 := (HB1.out.cell (p := ⟨K, 6, none⟩) zK).trans k6
  have nx := (HB1.out.cell (p := ⟨bx, ox + p, none⟩) zx).trans kx
  refine hK.out _ _ ?ha4 (fun hHeld => ?ra4)
  case ha4 => ((try dsimp only); go_keep)
  clear hK Kq
  try simp only [Act.put, List.setIfInBounds_toArray, List.set_cons_zero, List.set_cons_succ]
  refine take_run (i := 5) (v := ?va5) rfl (by kernel_rfl) (by kernel_rfl) (by kernel_rfl) (fun _ _ _ h => h) (by rfl) ?ya5 (by assumption) ?ra5
  case ya5 => (intro w hSw; (try dsimp only at hSw); go_simp; try with_reducible rfl)
  try simp only [Act.put, List.setIfInBounds_toArray, List.set_cons_zero, List.set_cons_succ]
  refine take_run (i := 6) (v := ?va6) rfl (by kernel_rfl) (by kernel_rfl) (by kernel_rfl) (fun _ _ _ h => h) (by rfl) ?ya6 (by assumption) ?ra6
  case ya6 => (intro w hSw; (try dsimp only at hSw); go_simp; try with_reducible rfl)
  try simp only [Act.put, List.setIfInBounds_toArray, List.set_cons_zero, List.set_cons_succ]
  refine take_run (i := 7) (v := ?va7) rfl (by kernel_rfl) (by kernel_rfl) (by kernel_rfl) (fun _ _ _ h => h) (by rfl) ?ya7 (by assumption) ?ra7
  case ya7 => (intro w hSw; (try dsimp only at hSw); go_simp; try with_reducible rfl)
  try simp only [Act.put, List.setIfInBounds_toArray, List.set_cons_zero, List.set_cons_succ]
  refine take_run (i := 8) (v := ?va8) rfl (by kernel_rfl) (by kernel_rfl) (by kernel_rfl) (fun _ _ _ h => h) (by rfl) ?ya8 (by assumption) ?ra8
  case ya8 => (intro w hSw; (try dsimp only at hSw); go_simp; try with_reducible rfl)
  try simp only [Act.put, List.setIfInBounds_toArray, List.set_cons_zero, List.set_cons_succ]
  refine take_run (i := 9) (v := ?va9) rfl (by kernel_rfl) (by kernel_rfl) (by kernel_rfl) (fun _ _ _ h => h) (by rfl) ?ya9 (by assumption) ?ra9
  case ya9 => (intro w hSw; (try dsimp only at hSw); go_simp; try with_reducible rfl)
  try simp only [Act.put, List.setIfInBounds_toArray, List.set_cons_zero, List.set_cons_succ]
  refine take_run (i := 10) (v := ?va10) rfl (by kernel_rfl) (by kernel_rfl) (by kernel_rfl) (fun _ _ _ h => h) (by rfl) ?ya10 (by assumption) ?ra10
  case ya10 => (intro w hSw; (try dsimp only at hSw); go_simp; try with_reducible rfl)
  try simp only [Act.put, List.setIfInBounds_toArray, List.set_cons_zero, List.set_cons_succ]
  refine take_run (i := 11) (v := ?va11) rfl (by kernel_rfl) (by kernel_rfl) (by kernel_rfl) (fun _ _ _ h => h) (by rfl) ?ya11 (by assumption) ?ra11
  case ya11 => (intro w hSw; (try dsimp only at hSw); go_simp; try with_reducible rfl)
  try simp only [Act.put, List.setIfInBounds_toArray, List.set_cons_zero, List.set_cons_succ]
  refine take_run (i := 12) (v := ?va12) rfl (by kernel_rfl) (by kernel_rfl) (by kernel_rfl) (fun _ _ _ h => h) (by rfl) ?ya12 (by assumption) ?ra12
  case ya12 => (intro w hSw; (try dsimp only at hSw); go_simp; try with_reducible rfl)
  try simp only [Act.put, List.setIfInBounds_toArray, List.set_cons_zero, List.set_cons_succ]
  refine take_run (i := 13) (v := ?va13) rfl (by kernel_rfl) (by kernel_rfl) (by kernel_rfl) (fun _ _ _ h => h) (by rfl) ?ya13 (by assumption) ?ra13
  case ya13 => (intro w hSw; (try dsimp only at hSw); go_simp; try with_reducible rfl)
  try simp only [Act.put, List.setIfInBounds_toArray, List.set_cons_zero, List.set_cons_succ]
  refine take_run (i := 14) (v := ?va14) rfl (by kernel_rfl) (by kernel_rfl) (by kernel_rfl) (fun _ _ _ h => h) (by rfl) ?ya14 (by assumption) ?ra14
  case ya14 => (intro w hSw; (try dsimp only at hSw); go_simp; try with_reducible rfl)
  try simp only [Act.put, List.setIfInBounds_toArray, List.set_cons_zero, List.set_cons_succ]
  refine take_run (i := 15) (v := .bool true) rfl (by kernel_rfl) (by kernel_rfl) (by kernel_rfl) (fun _ _ _ h => h) (by rfl) ?ya15 (by assumption) ?ra15
  case ya15 => (intro w hSw; (try dsimp only at hSw); try go_simp; first | done | omega | (simp [hd1]; done) | trace_state)
  try simp only [Act.put, List.setIfInBounds_toArray, List.set_cons_zero, List.set_cons_succ]
  refine take_run (i := 16) (v := ?va16) rfl (by kernel_rfl) (by kernel_rfl) (by kernel_rfl) (fun _ _ _ h => h) (by rfl) ?ya16 (by assumption) ?ra16
  case ya16 => (intro w hSw; (try dsimp only at hSw); go_simp; try with_reducible rfl)
  try simp only [Act.put, List.setIfInBounds_toArray, List.set_cons_zero, List.set_cons_succ]
  refine take_run (i := 17) (v := ?va17) rfl (by kernel_rfl) (by kernel_rfl) (by kernel_rfl) (fun _ _ _ h => h) (by rfl) ?ya17 (by assumption) ?ra17
  case ya17 => (intro w hSw; (try dsimp only at hSw); go_simp; try with_reducible rfl)
  try simp only [Act.put, List.setIfInBounds_toArray, List.set_cons_zero, List.set_cons_succ]
  refine take_run (i := 18) (v := ?va18) rfl (by kernel_rfl) (by kernel_rfl) (by kernel_rfl) (fun _ _ _ h => h) (by rfl) ?ya18 (by assumption) ?ra18
  case ya18 => (intro w hSw; (try dsimp only at hSw); go_simp; try with_reducible rfl)
  try simp only [Act.put, List.setIfInBounds_toArray, List.set_cons_zero, List.set_cons_succ]
  refine take_run (i := 19) (v := ?va19) rfl (by kernel_rfl) (by kernel_rfl) (by kernel_rfl) (fun _ _ _ h => h) (by rfl) ?ya19 (by assumption) ?ra19
  case ya19 => (intro w hSw; (try dsimp only at hSw); go_simp; try with_reducible rfl)
  try simp only [Act.put, List.setIfInBounds_toArray, List.set_cons_zero, List.set_cons_succ]
  refine take_run (i := 20) (v := ?va20) rfl (by kernel_rfl) (by kernel_rfl) (by kernel_rfl) (fun _ _ _ h => h) (by rfl) ?ya20 (by assumption) ?ra20
  case ya20 => (intro w hSw; (try dsimp only at hSw); go_simp; try with_reducible rfl)
  try simp only [Act.put, List.setIfInBounds_toArray, List.set_cons_zero, List.set_cons_succ]
  refine take_run (i := 21) (v := ?va21) rfl (by kernel_rfl) (by kernel_rfl) (by kernel_rfl) (fun _ _ _ h => h) (by rfl) ?ya21 (by assumption) ?ra21
  case ya21 => (intro w hSw; (try dsimp only at hSw); go_simp; try with_reducible rfl)
  try simp only [Act.put, List.setIfInBounds_toArray, List.set_cons_zero, List.set_cons_succ]
  refine take_run (i := 22) (v := ?va22) rfl (by kernel_rfl) (by kernel_rfl) (by kernel_rfl) (fun _ _ _ h => h) (by rfl) ?ya22 (by assumption) ?ra22
  case ya22 => (intro w hSw; (try dsimp only at hSw); go_simp; try with_reducible rfl)
  try simp only [Act.put, List.setIfInBounds_toArray, List.set_cons_zero, List.set_cons_succ]
  refine take_run (i := 23) (v := ?va23) rfl (by kernel_rfl) (by kernel_rfl) (by kernel_rfl) (fun _ _ _ h => h) (by rfl) ?ya23 (by assumption) ?ra23
  case ya23 => (intro w hSw; (try dsimp only at hSw); go_simp; try with_reducible rfl)
  try simp only [Act.put, List.setIfInBounds_toArray, List.set_cons_zero, List.set_cons_succ]
  refine take_run (i := 24) (v := ?va24) rfl (by kernel_rfl) (by kernel_rfl) (by kernel_rfl) (fun _ _ _ h => h) (by rfl) ?ya24 (by assumption) ?ra24
  case ya24 => (intro w hSw; (try dsimp only at hSw); go_simp; try with_reducible rfl)
  try simp only [Act.put, List.setIfInBounds_toArray, List.set_cons_zero, List.set_cons_succ]
  refine take_run (i := 25) (v := ?va25) rfl (by kernel_rfl) (by kernel_rfl) (by kernel_rfl) (fun _ _ _ h => h) (by rfl) ?ya25 (by assumption) ?ra25
  case ya25 => (intro w hSw; (try dsimp only at hSw); go_simp; try with_reducible rfl)
  try simp only [Act.put, List.setIfInBounds_toArray, List.set_cons_zero, List.set_cons_succ]
  refine take_run (i := 26) (v := ?va26) rfl (by kernel_rfl) (by kernel_rfl) (by kernel_rfl) (fun _ _ _ h => h) (by rfl) ?ya26 (by assumption) ?ra26
  case ya26 => (intro w hSw; (try dsimp only at hSw); go_simp; try with_reducible rfl)
  try simp only [Act.put, List.setIfInBounds_toArray, List.set_cons_zero, List.set_cons_succ]
  refine take_run (i := 27) (v := ?va27) rfl (by kernel_rfl) (by kernel_rfl) (by kernel_rfl) (fun _ _ _ h => h) (by rfl) ?ya27 (by assumption) ?ra27
  case ya27 => (intro w hSw; (try dsimp only at hSw); go_simp; try with_reducible rfl)
  try simp only [Act.put, List.setIfInBounds_toArray, List.set_cons_zero, List.set_cons_succ]
  refine take_run (i := 28) (v := ?va28) rfl (by kernel_rfl) (by kernel_rfl) (by kernel_rfl) (fun _ _ _ h => h) (by rfl) ?ya28 (by assumption) ?ra28
  case ya28 => (intro w hSw; (try dsimp only at hSw); go_simp; try with_reducible rfl)
  try simp only [Act.put, List.setIfInBounds_toArray, List.set_cons_zero, List.set_cons_succ]
  refine take_run (i := 29) (v := ?va29) rfl (by kernel_rfl) (by kernel_rfl) (by kernel_rfl) (fun _ _ _ h => h) (by rfl) ?ya29 (by assumption) ?ra29
  case ya29 => (intro w hSw; (try dsimp only at hSw); go_simp; try with_reducible rfl)
  try simp only [Act.put, List.setIfInBounds_toArray, List.set_cons_zero, List.set_cons_succ]
  refine take_run (i := 30) (v := ?va30) rfl (by kernel_rfl) (by kernel_rfl) (by kernel_rfl) (fun _ _ _ h => h) (by rfl) ?ya30 (by assumption) ?ra30
  case ya30 => (intro w hSw; (try dsimp only at hSw); go_simp; try with_reducible rfl)
  try simp only [Act.put, List.setIfInBounds_toArray, List.set_cons_zero, List.set_cons_succ]
  refine take_run (i := 31) (v := ?va31) rfl (by kernel_rfl) (by kernel_rfl) (by kernel_rfl) (fun _ _ _ h => h) (by rfl) ?ya31 (by assumption) ?ra31
  case ya31 => (intro w hSw; (try dsimp only at hSw); go_simp; try with_reducible rfl)
  try simp only [Act.put, List.setIfInBounds_toArray, List.set_cons_zero, List.set_cons_succ]
  refine take_run (i := 32) (v := ?va32) rfl (by kernel_rfl) (by kernel_rfl) (by kernel_rfl) (fun _ _ _ h => h) (by rfl) ?ya32 (by assumption) ?ra32
  case ya32 => (intro w hSw; (try dsimp only at hSw); go_simp; try with_reducible rfl)
  try simp only [Act.put, List.setIfInBounds_toArray, List.set_cons_zero, List.set_cons_succ]
  refine take_run (i := 33) (v := .bool true) rfl (by kernel_rfl) (by kernel_rfl) (by kernel_rfl) (fun _ _ _ h => h) (by rfl) ?ya33 (by assumption) ?ra33
  case ya33 => (intro w hSw; (try dsimp only at hSw); try go_simp; first | done | omega | (simp [hd2]; done) | trace_state)
  try simp only [Act.put, List.setIfInBounds_toArray, List.set_cons_zero, List.set_cons_succ]
  refine take_run (i := 34) (v := ?va34) rfl (by kernel_rfl) (by kernel_rfl) (by kernel_rfl) (fun _ _ _ h => h) (by rfl) ?ya34 (by assumption) ?ra34
  case ya34 => (intro w hSw; (try dsimp only at hSw); go_simp; try with_reducible rfl)
  try simp only [Act.put, List.setIfInBounds_toArray, List.set_cons_zero, List.set_cons_succ]
  refine wpAnyH_done (by kernel_rfl) ?_ _
  refine NoPanic.normal ?_
  have h1 := H0.out.below HB1.out
  have HH1 := Lib.hid h1
  have HK1 := Lib.hid ((Kept.of_below (fun b => b = K) HB0.out).trans (Kept.of_below (fun b => b = K) HB1.out))
  have m2 : w1.cell? ⟨K, 2, none⟩ = some (.int .i64 t.opn) := n2
  clear k0 k1 k2 k3 k4 k5 k6 n0 n1 n2 n3 n4 n5 n6 nx kx hHeld h1 hd1 hd2
  go_wp2_with fail
  refine (take_hit K t.terms t.atom t.opn t.cls t.opn _ _ l _ d p S w1 F.out.small HH1.out.blk HO.out HH1.out.word).mono ?_
  rintro e w2 ⟨rfl, hK2, hk2⟩
  obtain ⟨w3, hw3⟩ : ∃ w3 : World, w3 = w2.alloc (.cells #[.int .i64 (-1), .int .i64 t.opn, .slice none 0 0] 27) := ⟨_, rfl⟩
  have hb3 : Below w2.heap.size w2 w3 := by rw [hw3]; exact (Below.refl _ _).alloc (Nat.le_refl _) _
  have H3 := Lib.hid ((HH1.out.kept F.out hk2 (show p + 1 ≤ l.length by omega) hK2).below hb3)
  have HG3 : Hid (Blk' w3 w2.heap.size 27 #[.int .i64 (-1), .int .i64 t.opn, .slice none 0 0]) := Lib.hid (by rw [hw3]; exact Blk'.new w2 _ _)
  have HK3 := Lib.hid ((HK1.out.trans hk2).below hb3)
  have HR3 := Lib.hid (((HR0.out.below HB1.out HR0.out.lt).kept hk2 (by omega)).below hb3 (by have := (HR0.out.below HB1.out HR0.out.lt).lt; have := hk2.size; omega))
  have HW3 := Lib.hid hw3
  have HZ3 := Lib.hid (show w.heap.size < w2.heap.size by have := (HR0.out.below HB1.out HR0.out.lt).lt; have := hk2.size; omega)
  clear hK2 hk2 hb3 hw3 m2
  go_wp2_with fail
  rw [← HW3.out]
  cases Hr.out with
  | atom ha hb => exact absurd ⟨Hbk.out, HO.out⟩ ha
  | none ha hb => exact absurd ⟨Hbk.out, HO.out⟩ ha
  | brkRej hb ho q hx =>
    refine (HP.out _ _ _ hx H3.out).mono ?_
    rintro e w4 ⟨rfl, hC, hk⟩
    exact ⟨rfl, rfl, hC, HK3.out.trans hk⟩
  | brk hb ho x q hx hc =>
    refine (HP.out _ _ _ hx H3.out).mono ?_
    rintro e w4 ⟨⟨A4, c4, rfl, i1, i2, i3, i4, hE4⟩, hC4, hk4⟩
    obtain ⟨w5, hw5⟩ : ∃ w5 : World, w5 = w4.alloc (.cells #[.int .i64 x.rule, .int .i64 x.term, .slice A4 x.kids.length c4] 27) := ⟨_, rfl⟩
    have hb5 : Below w4.heap.size w4 w5 := by rw [hw5]; exact (Below.refl _ _).alloc (Nat.le_refl _) _
    have hC5 := hC4.below hb5
    have hG5 : Blk' w5 w4.heap.size 27 #[.int .i64 x.rule, .int .i64 x.term, .slice A4 x.kids.length c4] := by rw [hw5]; exact Blk'.new w4 _ _
    have zG3 : w2.heap.size < w3.heap.size := HG3.out.lt
    have hne3 : K < w2.heap.size := by have := HZ3.out; omega
    have hG35 := ((HG3.out.kept hk4 (by omega)).below hb5 (by have := hk4.size; omega))
    have hR5 := ((HR3.out.kept hk4 (by omega)).below hb5 (by have := HR3.out.lt; have := hk4.size; omega))
    have HK5 := Lib.hid ((HK3.out.trans hk4).below hb5)
    have HE5 := Lib.hid (And.intro i1 (And.intro i2 (And.intro i3 (And.intro i4 ((hE4.below hb5))))))
    have H5 := Lib.hid (And.intro hC5 (And.intro hG5 (And.intro hG35 hR5)))
    have g0 : w5.cell? ⟨w2.heap.size, 0, none⟩ = some (.int .i64 (-1)) := hG35.cell 0
    have g1 : w5.cell? ⟨w2.heap.size, 1, none⟩ = some (.int .i64 t.opn) := hG35.cell 1
    have g2 : w5.cell? ⟨w2.heap.size, 2, none⟩ = some (.slice none 0 0) := hG35.cell 2
    have x0 : w5.cell? ⟨w4.heap.size, 0, none⟩ = some (.int .i64 x.rule) := hG5.cell 0
    have x1 : w5.cell? ⟨w4.heap.size, 1, none⟩ = some (.int .i64 x.term) := hG5.cell 1
    have x2 : w5.cell? ⟨w4.heap.size, 2, none⟩ = some (.slice A4 x.kids.length c4) := hG5.cell 2
    have y3 : w5.cell? ⟨K, 3, none⟩ = some (.int .i64 t.cls) := hC5.blk.cell 3
    have zG5 : w4.heap.size < w5.heap.size := hG5.lt
    have zR5 : w.heap.size < w5.heap.size := hR5.lt
    have z35 : w2.heap.size < w5.heap.size := hG35.lt
    have ne1 : ¬ w.heap.size = w2.heap.size := by have := HZ3.out; omega
    have ne2 : ¬ w.heap.size = w4.heap.size := by have := HZ3.out; have := hk4.size; omega
    have ne3 : ¬ w.heap.size = K := by omega
    have ne4 : ¬ w2.heap.size = K := by omega
    have ne5 : ¬ w4.heap.size = K := by have := hk4.size; omega
    have HW5 := Lib.hid hw5
    clear hb5 hG5 hG35 hR5 i1 i2 i3 i4 hE4 hC4 hk4
    have HC := Lib.hid hc
    have HCi := Lib.hid (els_i64 hC5.word hc)
    have HCq := Lib.hid (List.getElem?_eq_some_iff.1 hc).1
    clear hC5 hw5 hc hx
    go_wp2_with fail
    rw [← HW5.out]
    refine wp_region_noPanic ?_
    refine wp_region_held_drew (S := (fun w' => w'.cell? ⟨w2.heap.size, 0, none⟩ = some (.int .i64 (-1)) ∧ w'.cell? ⟨w2.heap.size, 1, none⟩ = some (.int .i64 t.opn) ∧ w'.cell? ⟨w2.heap.size, 2, none⟩ = some (.slice none 0 0) ∧ w'.cell? ⟨w4.heap.size, 0, none⟩ = some (.int .i64 x.rule) ∧ w'.cell? ⟨w4.heap.size, 1, none⟩ = some (.int .i64 x.term) ∧ w'.cell? ⟨w4.heap.size, 2, none⟩ = some (.slice A4 x.kids.length c4) ∧ w'.cell? ⟨K, 3, none⟩ = some (.int .i64 t.cls))) (by kernel_rfl) ?hb (fun hHeld => ?bb)
    case hb => ((try dsimp only); go_keep)
    refine take_run (i := 0) (v := ?vb0) rfl (by kernel_rfl) (by kernel_rfl) (by kernel_rfl) (fun _ _ _ h => h) (by rfl) ?yb0 (by assumption) ?rb0
    case yb0 => (intro w hSw; (try dsimp only at hSw); go_simp; try with_reducible rfl)
    try simp only [Act.put, List.setIfInBounds_toArray, List.set_cons_zero, List.set_cons_succ]
    refine take_run (i := 1) (v := ?vb1) rfl (by kernel_rfl) (by kernel_rfl) (by kernel_rfl) (fun _ _ _ h => h) (by rfl) ?yb1 (by assumption) ?rb1
    case yb1 => (intro w hSw; (try dsimp only at hSw); go_simp; try with_reducible rfl)
    try simp only [Act.put, List.setIfInBounds_toArray, List.set_cons_zero, List.set_cons_succ]
    refine take_run (i := 2) (v := ?vb2) rfl (by kernel_rfl) (by kernel_rfl) (by kernel_rfl) (fun _ _ _ h => h) (by rfl) ?yb2 (by assumption) ?rb2
    case yb2 => (intro w hSw; (try dsimp only at hSw); go_simp; try with_reducible rfl)
    try simp only [Act.put, List.setIfInBounds_toArray, List.set_cons_zero, List.set_cons_succ]
    refine take_run (i := 3) (v := ?vb3) rfl (by kernel_rfl) (by kernel_rfl) (by kernel_rfl) (fun _ _ _ h => h) (by rfl) ?yb3 (by assumption) ?rb3
    case yb3 => (intro w hSw; (try dsimp only at hSw); go_simp; try with_reducible rfl)
    try simp only [Act.put, List.setIfInBounds_toArray, List.set_cons_zero, List.set_cons_succ]
    refine take_run (i := 4) (v := ?vb4) rfl (by kernel_rfl) (by kernel_rfl) (by kernel_rfl) (fun _ _ _ h => h) (by rfl) ?yb4 (by assumption) ?rb4
    case yb4 => (intro w hSw; (try dsimp only at hSw); go_simp; try with_reducible rfl)
    try simp only [Act.put, List.setIfInBounds_toArray, List.set_cons_zero, List.set_cons_succ]
    refine take_run (i := 5) (v := ?vb5) rfl (by kernel_rfl) (by kernel_rfl) (by kernel_rfl) (fun _ _ _ h => h) (by rfl) ?yb5 (by assumption) ?rb5
    case yb5 => (intro w hSw; (try dsimp only at hSw); go_simp; try with_reducible rfl)
    try simp only [Act.put, List.setIfInBounds_toArray, List.set_cons_zero, List.set_cons_succ]
    refine take_run (i := 6) (v := ?vb6) rfl (by kernel_rfl) (by kernel_rfl) (by kernel_rfl) (fun _ _ _ h => h) (by rfl) ?yb6 (by assumption) ?rb6
    case yb6 => (intro w hSw; (try dsimp only at hSw); go_simp; try with_reducible rfl)
    try simp only [Act.put, List.setIfInBounds_toArray, List.set_cons_zero, List.set_cons_succ]
    refine take_run (i := 7) (v := ?vb7) rfl (by kernel_rfl) (by kernel_rfl) (by kernel_rfl) (fun _ _ _ h => h) (by rfl) ?yb7 (by assumption) ?rb7
    case yb7 => (intro w hSw; (try dsimp only at hSw); go_simp; try with_reducible rfl)
    try simp only [Act.put, List.setIfInBounds_toArray, List.set_cons_zero, List.set_cons_succ]
    refine take_call (i := 8) rfl (by kernel_rfl) (by rfl) (fun Kq hK => ?_)
    go_simp
    go_at_call 144
    refine (take_hit K t.terms t.atom t.opn t.cls t.cls _ _ l _ d q S _ F.out.small (H5.out.1.below (below_drew _)).blk HC.out (H5.out.1.below (below_drew _)).word).mono ?_
    rintro e w6 ⟨rfl, hK6, hk6⟩
    have q0 := (hk6.cell (p := ⟨w2.heap.size, 0, none⟩) z35 ne4).trans g0
    have q1 := (hk6.cell (p := ⟨w2.heap.size, 1, none⟩) z35 ne4).trans g1
    have q2 := (hk6.cell (p := ⟨w2.heap.size, 2, none⟩) z35 ne4).trans g2
    have q3 := (hk6.cell (p := ⟨w4.heap.size, 0, none⟩) zG5 ne5).trans x0
    have q4 := (hk6.cell (p := ⟨w4.heap.size, 1, none⟩) zG5 ne5).trans x1
    have q5 := (hk6.cell (p := ⟨w4.heap.size, 2, none⟩) zG5 ne5).trans x2
    have q6 : w6.cell? ⟨K, 3, none⟩ = some (.int .i64 t.cls) := hK6.cell 3
    have hR6 := H5.out.2.2.2.kept (hk6.undrew) (by omega)
    have HK6 := Lib.hid (And.intro hK6 (And.intro hk6.undrew hR6))
    have s0 := hR6.cell 0
    have s1 := hR6.cell 1
    have s2 := hR6.cell 2
    have r0 := hR6.frozen 0
    have r1 := hR6.frozen 1
    have r2 := hR6.frozen 2
    have zz2 : w2.heap.size < w6.heap.size := by have := hk6.undrew.size; omega
    have zz4 : w4.heap.size < w6.heap.size := by have := hk6.undrew.size; omega
    have zzK : K < w6.heap.size := by omega
    have zzR : w.heap.size < w6.heap.size := hR6.lt
    clear hK6 hk6 hR6
    simp at s0 s1 s2
    refine hK.out _ _ ?hb8 (fun hHeld => ?rb8)
    case hb8 => ((try dsimp only); go_keep)
    clear hK Kq
    try simp only [Act.put, List.setIfInBounds_toArray, List.set_cons_zero, List.set_cons_succ]
    refine take_call (i := 9) rfl (by kernel_rfl) (by rfl) (fun Kq hK => ?_)
    go_simp
    refine hK.out _ _ ?hb9 (fun hHeld => ?rb9)
    case hb9 => ((try dsimp only); go_keep)
    clear hK Kq
    try simp only [Act.put, List.setIfInBounds_toArray, List.set_cons_zero, List.set_cons_succ]
    refine take_call (i := 10) rfl (by kernel_rfl) (by rfl) (fun Kq hK => ?_)
    go_simp
    refine hK.out _ _ ?hb10 (fun hHeld => ?rb10)
    case hb10 => ((try dsimp only); go_keep)
    clear hK Kq
    try simp only [Act.put, List.setIfInBounds_toArray, List.set_cons_zero, List.set_cons_succ]
    refine take_call (i := 11) rfl (by kernel_rfl) (by rfl) (fun Kq hK => ?_)
    go_simp
    refine hK.out _ _ ?hb11 (fun hHeld => ?rb11)
    case hb11 => ((try dsimp only); go_keep)
    clear hK Kq
    try simp only [Act.put, List.setIfInBounds_toArray, List.set_cons_zero, List.set_cons_succ]
    refine wpAnyH_done (by kernel_rfl) ?_ _
    refine NoPanic.normal ?_
    go_wp2_with fail
    generalize hwF : World.alloc _ _ = wF
    obtain ⟨⟨⟨u0, u1, u2⟩, hC, hKw⟩, hN, hz, hKF⟩ := node_fin HH.out F.out (HK5.out.trans HK6.out.2.1) HK6.out.1 (by have := HCq.out; omega) HK6.out.2.2 (Nat.le_refl _) hwF.symm
    clear hwF
    have zF := HG3.out.lt
    have zF2 := HZ3.out
    have hEF := (HE5.out.2.2.2.2.kept HK6.out.2.1 (fun b hb (e : b = K) => by have := hb.1; omega)).kept hKF (fun b hb (e : b = w.heap.size) => by have := hb.1; omega)
    refine bodyPost_ret (v := .agg #[.int .i64 1, .int .i64 0, .slice (some ⟨w6.heap.size, 0, none⟩) 3 3]) (by simp [results, Tryd.results142, go_sem, u0, u1, u2]) rfl ⟨⟨_, 3, rfl, i64_1, i64_0, Nat.le_refl _, by omega, ?_⟩, hC, hKw⟩
    exact els_trio (cs := [_, _, _]) (ds := [_, _, _]) (fs := [_, _, _]) hN rfl (rd_leaf HE.out) (rd_node HE5.out.1 HE5.out.2.1 HE5.out.2.2.1 HE5.out.2.2.2.1 (hEF.keep (fun _ _ _ => rfl) (fun b hb => ⟨by have := hb.1; omega, by have := hb.2; have := HK6.out.2.1.size; omega⟩))) (rd_leaf HCi.out) ⟨by omega, by omega⟩
  | brkNo hb ho x q hx hc =>
    refine (HP.out _ _ _ hx H3.out).mono ?_
    rintro e w4 ⟨⟨A4, c4, rfl, i1, i2, i3, i4, hE4⟩, hC4, hk4⟩
    obtain ⟨w5, hw5⟩ : ∃ w5 : World, w5 = w4.alloc (.cells #[.int .i64 x.rule, .int .i64 x.term, .slice A4 x.kids.length c4] 27) := ⟨_, rfl⟩
    have hb5 : Below w4.heap.size w4 w5 := by rw [hw5]; exact (Below.refl _ _).alloc (Nat.le_refl _) _
    have hC5 := hC4.below hb5
    have hG5 : Blk' w5 w4.heap.size 27 #[.int .i64 x.rule, .int .i64 x.term, .slice A4 x.kids.length c4] := by rw [hw5]; exact Blk'.new w4 _ _
    have zG3 : w2.heap.size < w3.heap.size := HG3.out.lt
    have hne3 : K < w2.heap.size := by have := HZ3.out; omega
    have hG35 := ((HG3.out.kept hk4 (by omega)).below hb5 (by have := hk4.size; omega))
    have hR5 := ((HR3.out.kept hk4 (by omega)).below hb5 (by have := HR3.out.lt; have := hk4.size; omega))
    have HK5 := Lib.hid ((HK3.out.trans hk4).below hb5)
    have HE5 := Lib.hid (And.intro i1 (And.intro i2 (And.intro i3 (And.intro i4 ((hE4.below hb5))))))
    have H5 := Lib.hid (And.intro hC5 (And.intro hG5 (And.intro hG35 hR5)))
    have g0 : w5.cell? ⟨w2.heap.size, 0, none⟩ = some (.int .i64 (-1)) := hG35.cell 0
    have g1 : w5.cell? ⟨w2.heap.size, 1, none⟩ = some (.int .i64 t.opn) := hG35.cell 1
    have g2 : w5.cell? ⟨w2.heap.size, 2, none⟩ = some (.slice none 0 0) := hG35.cell 2
    have x0 : w5.cell? ⟨w4.heap.size, 0, none⟩ = some (.int .i64 x.rule) := hG5.cell 0
    have x1 : w5.cell? ⟨w4.heap.size, 1, none⟩ = some (.int .i64 x.term) := hG5.cell 1
    have x2 : w5.cell? ⟨w4.heap.size, 2, none⟩ = some (.slice A4 x.kids.length c4) := hG5.cell 2
    have y3 : w5.cell? ⟨K, 3, none⟩ = some (.int .i64 t.cls) := hC5.blk.cell 3
    have zG5 : w4.heap.size < w5.heap.size := hG5.lt
    have zR5 : w.heap.size < w5.heap.size := hR5.lt
    have z35 : w2.heap.size < w5.heap.size := hG35.lt
    have ne1 : ¬ w.heap.size = w2.heap.size := by have := HZ3.out; omega
    have ne2 : ¬ w.heap.size = w4.heap.size := by have := HZ3.out; have := hk4.size; omega
    have ne3 : ¬ w.heap.size = K := by omega
    have ne4 : ¬ w2.heap.size = K := by omega
    have ne5 : ¬ w4.heap.size = K := by have := hk4.size; omega
    have HW5 := Lib.hid hw5
    clear hb5 hG5 hG35 hR5 i1 i2 i3 i4 hE4 hC4 hk4
    have HC := Lib.hid hc
    have HCq := Lib.hid hC5.le
    clear hC5 hw5 hc hx
    go_wp2_with fail
    rw [← HW5.out]
    refine wp_region_held_drew (S := (fun w' => w'.cell? ⟨w2.heap.size, 0, none⟩ = some (.int .i64 (-1)) ∧ w'.cell? ⟨w2.heap.size, 1, none⟩ = some (.int .i64 t.opn) ∧ w'.cell? ⟨w2.heap.size, 2, none⟩ = some (.slice none 0 0) ∧ w'.cell? ⟨w4.heap.size, 0, none⟩ = some (.int .i64 x.rule) ∧ w'.cell? ⟨w4.heap.size, 1, none⟩ = some (.int .i64 x.term) ∧ w'.cell? ⟨w4.heap.size, 2, none⟩ = some (.slice A4 x.kids.length c4) ∧ w'.cell? ⟨K, 3, none⟩ = some (.int .i64 t.cls))) (by kernel_rfl) ?hd (fun hHeld => ?bd)
    case hd => ((try dsimp only); go_keep)
    refine take_run (i := 0) (v := ?vd0) rfl (by kernel_rfl) (by kernel_rfl) (by kernel_rfl) (fun _ _ _ h => h) (by rfl) ?yd0 (by assumption) ?rd0
    case yd0 => (intro w hSw; (try dsimp only at hSw); go_simp; try with_reducible rfl)
    try simp only [Act.put, List.setIfInBounds_toArray, List.set_cons_zero, List.set_cons_succ]
    refine take_run (i := 1) (v := ?vd1) rfl (by kernel_rfl) (by kernel_rfl) (by kernel_rfl) (fun _ _ _ h => h) (by rfl) ?yd1 (by assumption) ?rd1
    case yd1 => (intro w hSw; (try dsimp only at hSw); go_simp; try with_reducible rfl)
    try simp only [Act.put, List.setIfInBounds_toArray, List.set_cons_zero, List.set_cons_succ]
    refine take_run (i := 2) (v := ?vd2) rfl (by kernel_rfl) (by kernel_rfl) (by kernel_rfl) (fun _ _ _ h => h) (by rfl) ?yd2 (by assumption) ?rd2
    case yd2 => (intro w hSw; (try dsimp only at hSw); go_simp; try with_reducible rfl)
    try simp only [Act.put, List.setIfInBounds_toArray, List.set_cons_zero, List.set_cons_succ]
    refine take_run (i := 3) (v := ?vd3) rfl (by kernel_rfl) (by kernel_rfl) (by kernel_rfl) (fun _ _ _ h => h) (by rfl) ?yd3 (by assumption) ?rd3
    case yd3 => (intro w hSw; (try dsimp only at hSw); go_simp; try with_reducible rfl)
    try simp only [Act.put, List.setIfInBounds_toArray, List.set_cons_zero, List.set_cons_succ]
    refine take_run (i := 4) (v := ?vd4) rfl (by kernel_rfl) (by kernel_rfl) (by kernel_rfl) (fun _ _ _ h => h) (by rfl) ?yd4 (by assumption) ?rd4
    case yd4 => (intro w hSw; (try dsimp only at hSw); go_simp; try with_reducible rfl)
    try simp only [Act.put, List.setIfInBounds_toArray, List.set_cons_zero, List.set_cons_succ]
    refine take_run (i := 5) (v := ?vd5) rfl (by kernel_rfl) (by kernel_rfl) (by kernel_rfl) (fun _ _ _ h => h) (by rfl) ?yd5 (by assumption) ?rd5
    case yd5 => (intro w hSw; (try dsimp only at hSw); go_simp; try with_reducible rfl)
    try simp only [Act.put, List.setIfInBounds_toArray, List.set_cons_zero, List.set_cons_succ]
    refine take_run (i := 6) (v := ?vd6) rfl (by kernel_rfl) (by kernel_rfl) (by kernel_rfl) (fun _ _ _ h => h) (by rfl) ?yd6 (by assumption) ?rd6
    case yd6 => (intro w hSw; (try dsimp only at hSw); go_simp; try with_reducible rfl)
    try simp only [Act.put, List.setIfInBounds_toArray, List.set_cons_zero, List.set_cons_succ]
    refine take_run (i := 7) (v := ?vd7) rfl (by kernel_rfl) (by kernel_rfl) (by kernel_rfl) (fun _ _ _ h => h) (by rfl) ?yd7 (by assumption) ?rd7
    case yd7 => (intro w hSw; (try dsimp only at hSw); go_simp; try with_reducible rfl)
    try simp only [Act.put, List.setIfInBounds_toArray, List.set_cons_zero, List.set_cons_succ]
    refine take_call (i := 8) rfl (by kernel_rfl) (by rfl) (fun Kq hK => ?_)
    go_simp
    go_at_call 144
    refine (take_rej K t.terms t.atom t.opn t.cls t.cls _ _ l _ d q S _ F.out.small HCq.out (H5.out.1.below (below_drew _)).blk HC.out (H5.out.1.below (below_drew _)).word).mono ?_
    rintro e w6 ⟨rfl, hb6⟩
    exact ⟨rfl, rfl, H5.out.1.below (bundrew hb6), HK5.out.below (bundrew hb6)⟩
end Go.Proofs.YtjdojogjogenkaaDoor
