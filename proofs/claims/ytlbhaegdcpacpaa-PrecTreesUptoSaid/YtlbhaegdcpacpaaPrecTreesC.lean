/- The walk of the law PrecTrees. -/
import Derived.Test.YtlbhaegdcpacpaaBackPub
import Derived.Test.YtlbhaegdcpacpaaAllowPub
import Derived.Test.YtlbhaegdcpacpaaRBack
import Derived.Test.YtlbhaegdcpacpaaRAllow
import Derived.Test.YtlbhaegdcpacpaaSameTree
import Derived.Test.YtlbhaegdcpacpaaRTree
import Derived.Test.YtlbhaegdcpacpaaPrecPlus
import Derived.Test.YtlbhaegdcpacpaaRefLay
import Derived.Test.YtlbhaegdcpacpaaRefFlat
import Derived.Test.YtlbhaegdcpacpaaRefErr
import Derived.Test.YtlbhaegdcpacpaaPrecOpen
import Derived.Test.YtlbhaegdcpacpaaTreeOpen
import Derived.Test.YtlbhaegdcpacpaaRegByHand
import Derived.Deep.DeepCutAuto
import Derived.Deep.RegionLaw
import Derived.Deep.RegionHeld3
namespace Go.Proofs.Ytlbhaegdcpacpaa
open Go.RowKit
set_option linter.unusedVariables false

def atomT : Tree := ⟨0, 0, [⟨-1, 0, []⟩]⟩
def sumT : Tree := ⟨1, 0, [atomT, ⟨-1, 1, []⟩, atomT]⟩
theorem plus_ok : allowV plusT sumT = true ∧ allowEr plusT sumT = 0 := by decide +kernel
theorem plus_64' : I64 plusT.terms ∧ I64 plusT.atom ∧ I64 plusT.opn ∧ I64 plusT.cls := ⟨⟨by decide, by decide⟩, ⟨by decide, by decide⟩, ⟨by decide, by decide⟩, ⟨by decide, by decide⟩⟩
theorem flat_ref' {t : Table} (h : Valid t) : flatRulesB (decide (t.opn ≠ -1)) t = flatRules t := by rw [← h.hbrk]; rfl
theorem sum_els {W : World} {g : Nat} (h : Blk' W g 27 #[.int .i64 (-1), .int .i64 0, .slice none 0 0]) :
    Els (W.alloc (.cells #[.int .i64 0, .int .i64 0, .slice (some ⟨g, 0, none⟩) 1 1, .int .i64 (-1), .int .i64 1, .slice none 0 0, .int .i64 0, .int .i64 0, .slice (some ⟨g, 0, none⟩) 1 1] 27)) (fun b => b < W.heap.size + 1) sumT.kids (some ⟨W.heap.size, 0, none⟩) := by
  have i0 : I64 0 := ⟨by omega, by omega⟩
  have i1 : I64 1 := ⟨by omega, by omega⟩
  have i2 : I64 (-1) := ⟨by omega, by omega⟩
  have hg := h.lt
  have h1 := h.alloc (.cells #[.int .i64 0, .int .i64 0, .slice (some ⟨g, 0, none⟩) 1 1, .int .i64 (-1), .int .i64 1, .slice none 0 0, .int .i64 0, .int .i64 0, .slice (some ⟨g, 0, none⟩) 1 1] 27)
  have hk : Els (W.alloc (.cells #[.int .i64 0, .int .i64 0, .slice (some ⟨g, 0, none⟩) 1 1, .int .i64 (-1), .int .i64 1, .slice none 0 0, .int .i64 0, .int .i64 0, .slice (some ⟨g, 0, none⟩) 1 1] 27)) (fun b => b < W.heap.size + 1) atomT.kids (some ⟨g, 0, none⟩) :=
    els_of_blk [[.int .i64 (-1), .int .i64 0, .slice none 0 0]] h1 rfl rfl (rd_one (rd_tree.2 ⟨_, rfl, i2, i0, Vl.nil⟩)) (by show g < _; omega)
  have ha : Dat.rd (W.alloc (.cells #[.int .i64 0, .int .i64 0, .slice (some ⟨g, 0, none⟩) 1 1, .int .i64 (-1), .int .i64 1, .slice none 0 0, .int .i64 0, .int .i64 0, .slice (some ⟨g, 0, none⟩) 1 1] 27)) (fun b => b < W.heap.size + 1) atomT [.int .i64 0, .int .i64 0, .slice (some ⟨g, 0, none⟩) 1 1] :=
    rd_tree.2 ⟨_, rfl, i0, i0, Vl.of_slice rfl (by decide) (by decide) hk⟩
  exact els_of_blk [[.int .i64 0, .int .i64 0, .slice (some ⟨g, 0, none⟩) 1 1], [.int .i64 (-1), .int .i64 1, .slice none 0 0], [.int .i64 0, .int .i64 0, .slice (some ⟨g, 0, none⟩) 1 1]] (Blk'.new W _ _) rfl rfl (rd_three0 ha (rd_tree.2 ⟨_, rfl, i2, i1, Vl.nil⟩) ha) (by show W.heap.size < _; omega)

/-- What stays of the law's arguments. -/
structure PK (w : World) (t : Table) (x y : Tree) (A B D : Option Addr) (c d k : Nat) (S : Nat → Prop) (W : World) : Prop where
  bel : Below w.heap.size w W
  tab : Blk' W w.heap.size 24 #[.int .i64 t.terms, .int .i64 t.atom, .int .i64 t.opn, .int .i64 t.cls, .slice A t.levels.length c]
  bx : Blk' W (w.heap.size + 1) 27 #[.int .i64 x.rule, .int .i64 x.term, .slice B x.kids.length d]
  by_ : Blk' W (w.heap.size + 1 + 1) 27 #[.int .i64 y.rule, .int .i64 y.term, .slice D y.kids.length k]
  lev : Els W S t.levels A
  ex : Els W S x.kids B
  ey : Els W S y.kids D
theorem PK.below {w : World} {t : Table} {x y : Tree} {A B D : Option Addr} {c d k : Nat} {S : Nat → Prop} {W W' : World} (h : PK w t x y A B D c d k S W) (hb : Below W.heap.size W W') : PK w t x y A B D c d k S W' :=
  ⟨bthen h.bel hb h.bel.size, h.tab.below hb h.tab.lt, h.bx.below hb h.bx.lt, h.by_.below hb h.by_.lt, h.lev.below hb, h.ex.below hb, h.ey.below hb⟩

/-- The arguments and the tree that Back returned. -/
structure PZ (w : World) (t : Table) (x y : Tree) (A B D : Option Addr) (c d k : Nat) (S : Nat → Prop) (z : Tree) (zb : Nat) (ZA : Option Addr) (zc : Nat) (Sz : Nat → Prop) (W : World) : Prop where
  pk : PK w t x y A B D c d k S W
  bz : Blk' W zb 27 #[.int .i64 z.rule, .int .i64 z.term, .slice ZA z.kids.length zc]
  ez : Els W Sz z.kids ZA
theorem PZ.below {w : World} {t : Table} {x y : Tree} {A B D : Option Addr} {c d k : Nat} {S : Nat → Prop} {z : Tree} {zb : Nat} {ZA : Option Addr} {zc : Nat} {Sz : Nat → Prop} {W W' : World} (h : PZ w t x y A B D c d k S z zb ZA zc Sz W) (hb : Below W.heap.size W W') : PZ w t x y A B D c d k S z zb ZA zc Sz W' :=
  ⟨h.pk.below hb, h.bz.below hb h.bz.lt, h.ez.below hb⟩
theorem lay_len {t : Table} (V : Valid t) : (layRules (brk t) t).length ≤ 1000 := by
  have h1 := V.ops
  have h2 := V.levels
  simp only [layRules, layTailR, List.length_append, layFrom_len]
  split <;> simp only [List.length_cons, List.length_nil] <;> omega
theorem flat_lenV {t : Table} (V : Valid t) : (flatRules t).length ≤ 1000 := by
  have h1 := V.ops
  simp only [flatRules, List.length_cons, List.length_append, levRules_len]
  split <;> simp only [List.length_cons, List.length_nil] <;> omega
theorem same_true (z : Tree) (A A' : Option Addr) (c c' : Nat) (S S' : Nat → Prop) (w : World) (hc : z.kids.length ≤ c ∧ c ≤ 9223372036854775807) (hc' : z.kids.length ≤ c' ∧ c' ≤ 9223372036854775807) (hA : Els w S z.kids A) (hA' : Els w S' z.kids A') :
    Calls Try.prog 14 #[.agg #[.int .i64 z.rule, .int .i64 z.term, .slice A z.kids.length c], .agg #[.int .i64 z.rule, .int .i64 z.term, .slice A' z.kids.length c']] w fun e w' => e = .returned (.bool true) ∧ Below w.heap.size w w' :=
  (sameTree_any S S' z z A A' c c' w hc hc' hA hA').mono fun e w' ⟨h1, h2⟩ => ⟨by rw [h1]; simp, h2⟩
theorem same_zero (A : Option Addr) (c : Nat) (S : Nat → Prop) (w : World) (hc : c ≤ 9223372036854775807) :
    Calls Try.prog 14 #[.agg #[.int .i64 0, .int .i64 0, .slice A 0 c], .agg #[.int .i64 0, .int .i64 0, .slice none 0 0]] w fun e w' => e = .returned (.bool true) ∧ Below w.heap.size w w' :=
  same_true ⟨0, 0, []⟩ A none c 0 S S w ⟨Nat.zero_le _, hc⟩ ⟨Nat.zero_le _, by omega⟩ (fun h => absurd rfl h) (fun h => absurd rfl h)

set_option maxRecDepth 100000 in
set_option maxHeartbeats 4000000 in
theorem precTrees_any (t : Table) (x y : Tree) (A B D : Option Addr) (c d k : Nat) (S : Nat → Prop) (w : World) (h64 : I64 t.terms ∧ I64 t.atom ∧ I64 t.opn ∧ I64 t.cls) (hlc : t.levels.length ≤ c) (hc : c ≤ 9223372036854775807) (hA : Els w S t.levels A) (hS : ∀ b, S b → b < w.heap.size) (hN : (allOps t).length ≤ 2000000)
    (hx : I64 x.rule ∧ I64 x.term) (hxd : x.kids.length ≤ d ∧ d ≤ 9223372036854775807) (hB : Els w S x.kids B) (hy : I64 y.rule ∧ I64 y.term) (hyk : y.kids.length ≤ k ∧ k ≤ 9223372036854775807) (hD : Els w S y.kids D) :
    Calls Try.prog 3 #[.agg #[.int .i64 t.terms, .int .i64 t.atom, .int .i64 t.opn, .int .i64 t.cls, .slice A t.levels.length c], .agg #[.int .i64 x.rule, .int .i64 x.term, .slice B x.kids.length d], .agg #[.int .i64 y.rule, .int .i64 y.term, .slice D y.kids.length k]] w
      fun e w' => e = .returned (.bool true) ∧ Below w.heap.size w w' := by
  obtain ⟨w0, hw0⟩ : ∃ w0 : World, w0 = ((w.alloc (.cells #[.int .i64 t.terms, .int .i64 t.atom, .int .i64 t.opn, .int .i64 t.cls, .slice A t.levels.length c] 24)).alloc (.cells #[.int .i64 x.rule, .int .i64 x.term, .slice B x.kids.length d] 27)).alloc (.cells #[.int .i64 y.rule, .int .i64 y.term, .slice D y.kids.length k] 27) := ⟨_, rfl⟩
  have hb0 : Below w.heap.size w w0 := by rw [hw0]; exact (((Below.refl _ _).alloc (Nat.le_refl _) _).alloc (by simp) _).alloc (by simp; omega) _
  have K0 : Hid (PK w t x y A B D c d k S w0) := Lib.hid ⟨hb0, by rw [hw0]; exact ((Blk'.new w _ _).alloc _).alloc _, by rw [hw0]; exact (Blk'.new' _ _ _ (by simp)).alloc _, by rw [hw0]; exact Blk'.new' _ _ _ (by simp), hA.below hb0, hB.below hb0, hD.below hb0⟩
  have HW0 := Lib.hid hw0
  have HS := Lib.hid hS
  have H64 := Lib.hid h64
  have HN := Lib.hid hN
  have HX := Lib.hid hx
  have HY := Lib.hid hy
  clear hw0 hb0 hA hB hD hS h64 hN hx hy
  obtain ⟨hxd, hd⟩ := hxd
  obtain ⟨hyk, hk⟩ := hyk
  obtain ⟨w1, hw1⟩ : ∃ w1 : World, w1 = (w0.alloc (.cells #[.int .i64 (-1), .int .i64 0, .slice none 0 0] 27)).alloc (.cells #[.int .i64 0, .int .i64 0, .slice (some ⟨w0.heap.size, 0, none⟩) 1 1] 27) := ⟨_, rfl⟩
  have hb1 : Below w0.heap.size w0 w1 := by rw [hw1]; exact ((Below.refl _ _).alloc (Nat.le_refl _) _).alloc (by simp) _
  have hA0 : Blk' w1 w0.heap.size 27 #[.int .i64 (-1), .int .i64 0, .slice none 0 0] := by rw [hw1]; exact (Blk'.new w0 _ _).alloc _
  have hA1 : Blk' w1 (w0.heap.size + 1) 27 #[.int .i64 0, .int .i64 0, .slice (some ⟨w0.heap.size, 0, none⟩) 1 1] := by rw [hw1]; exact Blk'.new' _ _ _ (by simp)
  have K1 := Lib.hid (K0.out.below hb1)
  have HA0 := Lib.hid hA0
  have l0 : w1.cell? ⟨w0.heap.size + 1, 0, none⟩ = some (.int .i64 0) := hA1.cell 0
  have l1 : w1.cell? ⟨w0.heap.size + 1, 1, none⟩ = some (.int .i64 0) := hA1.cell 1
  have l2 : w1.cell? ⟨w0.heap.size + 1, 2, none⟩ = some (.slice (some ⟨w0.heap.size, 0, none⟩) 1 1) := hA1.cell 2
  have zl : w0.heap.size + 1 < w1.heap.size := hA1.lt
  have za : w0.heap.size < w1.heap.size := hA0.lt
  have HW1 := Lib.hid hw1
  have i0 : I64 0 := ⟨by omega, by omega⟩
  have i1 : I64 1 := ⟨by omega, by omega⟩
  have HI := Lib.hid (And.intro i0 i1)
  clear hw1 hb1 hA0 hA1 K0 i0 i1
  go_enter Try.func3, Try.ntmps3
  go_upto_region 1 with (fail)
  rw [← HW0.out]
  go_upto_region 2 with (fail)
  rw [← HW1.out]
  go_cut [8, 9] (fun v e wx => v = .bool true ∧ e = .int .i64 0 ∧ Below w1.heap.size w1 wx)
  case first =>
    go_region_held3 (fun w' => w'.cell? ⟨w0.heap.size + 1, 0, none⟩ = some (.int .i64 0) ∧ w'.cell? ⟨w0.heap.size + 1, 1, none⟩ = some (.int .i64 0) ∧ w'.cell? ⟨w0.heap.size + 1, 2, none⟩ = some (.slice (some ⟨w0.heap.size, 0, none⟩) 1 1)) (go_keep)
      (first
      | (go_at_call 11
         refine (plus_any _).mono ?_
         rintro e w4 ⟨As, rfl, hEs, hbs⟩
         have HEs := Lib.hid hEs
         first
         | (have H4 : Hid (Below w1.heap.size w1 w4) := Lib.hid (((Below.refl _ _).drew).trans hbs)
            have m0 := (H4.out.cell (p := ⟨w0.heap.size + 1, 0, none⟩) zl).trans l0
            have m1 := (H4.out.cell (p := ⟨w0.heap.size + 1, 1, none⟩) zl).trans l1
            have m2 := (H4.out.cell (p := ⟨w0.heap.size + 1, 2, none⟩) zl).trans l2
            have hz4 := H4.out.size
            have HKd := Lib.hid (sum_els (HA0.out.below H4.out za))
            have tokA : True := trivial
            clear hEs hbs)
         | (have hW : Below w1.heap.size w1 (w1.drew.alloc (.cells #[.int .i64 0, .int .i64 0, .slice (some ⟨w0.heap.size, 0, none⟩) 1 1, .int .i64 (-1), .int .i64 1, .slice none 0 0, .int .i64 0, .int .i64 0, .slice (some ⟨w0.heap.size, 0, none⟩) 1 1] 27)) := ((Below.refl w1.heap.size w1).drew).alloc (Nat.le_refl _) _
            have H4 : Hid (Below w1.heap.size w1 w4) := Lib.hid (hW.trans (hbs.mono (by simp)))
            have HKd : Hid (Els w4 (fun b => b < w4.heap.size) sumT.kids (some ⟨w1.heap.size, 0, none⟩)) := Lib.hid (((sum_els (W := w1.drew) HA0.out).below hbs).keep (fun _ _ _ => rfl) (fun b hb => by have := hbs.size; simp at hb this; omega))
            clear hW
            have m0 := (H4.out.cell (p := ⟨w0.heap.size + 1, 0, none⟩) zl).trans l0
            have m1 := (H4.out.cell (p := ⟨w0.heap.size + 1, 1, none⟩) zl).trans l1
            have m2 := (H4.out.cell (p := ⟨w0.heap.size + 1, 2, none⟩) zl).trans l2
            have hz4 := H4.out.size
            clear hEs hbs))
      | (go_at_call 10
         first
         | (have _t := tokA
            clear _t
            refine (allowed_any plusT sumT As (some ⟨w4.heap.size, 0, none⟩) 1 3 _ _ _ plus_64' (by decide) (by decide) (HEs.out.below ((Below.refl _ _).alloc (Nat.le_refl _) _)) (fun b hb => by simp; omega) (by decide) HI.out.2 HI.out.1 (by decide) (by decide) HKd.out (fun b hb => by simpa using hb)).mono ?_
            rintro e w5 ⟨rfl, hb5⟩
            rw [plus_ok.1, plus_ok.2]
            have H5 := Lib.hid (bthen (H4.out.alloc H4.out.size (.cells #[.int .i64 0, .int .i64 0, .slice (some ⟨w0.heap.size, 0, none⟩) 1 1, .int .i64 (-1), .int .i64 1, .slice none 0 0, .int .i64 0, .int .i64 0, .slice (some ⟨w0.heap.size, 0, none⟩) 1 1] 27)) hb5 (by have := H4.out.size; simp; omega))
            have n0 := (H5.out.cell (p := ⟨w0.heap.size + 1, 0, none⟩) zl).trans l0
            have n1 := (H5.out.cell (p := ⟨w0.heap.size + 1, 1, none⟩) zl).trans l1
            have n2 := (H5.out.cell (p := ⟨w0.heap.size + 1, 2, none⟩) zl).trans l2
            clear hb5)
         | (refine (allowed_any plusT sumT As (some ⟨w1.heap.size, 0, none⟩) 1 3 _ _ _ plus_64' (by decide) (by decide) HEs.out (fun b hb => hb) (by decide) HI.out.2 HI.out.1 (by decide) (by decide) HKd.out (fun b hb => hb)).mono ?_
            rintro e w5 ⟨rfl, hb5⟩
            rw [plus_ok.1, plus_ok.2]
            have H5 := Lib.hid (bthen H4.out hb5 H4.out.size)
            have n0 := (H5.out.cell (p := ⟨w0.heap.size + 1, 0, none⟩) zl).trans l0
            have n1 := (H5.out.cell (p := ⟨w0.heap.size + 1, 1, none⟩) zl).trans l1
            have n2 := (H5.out.cell (p := ⟨w0.heap.size + 1, 2, none⟩) zl).trans l2
            clear hb5)))
    all_goals
      go_wp2_with fail
      go_meet
      exact ⟨rfl, rfl, H5.out⟩
  case rest =>
    obtain ⟨rfl, rfl, hb2⟩ := hcut
    rename World => w2
    have K2 := Lib.hid (K1.out.below hb2)
    clear hb2 l0 l1 l2 zl za HA0 HW1 HW0
    have a0 : w2.cell? ⟨w.heap.size, 0, none⟩ = some (.int .i64 t.terms) := K2.out.tab.cell 0
    have a1 : w2.cell? ⟨w.heap.size, 1, none⟩ = some (.int .i64 t.atom) := K2.out.tab.cell 1
    have a2 : w2.cell? ⟨w.heap.size, 2, none⟩ = some (.int .i64 t.opn) := K2.out.tab.cell 2
    have a3 : w2.cell? ⟨w.heap.size, 3, none⟩ = some (.int .i64 t.cls) := K2.out.tab.cell 3
    have a4 : w2.cell? ⟨w.heap.size, 4, none⟩ = some (.slice A t.levels.length c) := K2.out.tab.cell 4
    have x0 : w2.cell? ⟨w.heap.size + 1, 0, none⟩ = some (.int .i64 x.rule) := K2.out.bx.cell 0
    have x1 : w2.cell? ⟨w.heap.size + 1, 1, none⟩ = some (.int .i64 x.term) := K2.out.bx.cell 1
    have x2 : w2.cell? ⟨w.heap.size + 1, 2, none⟩ = some (.slice B x.kids.length d) := K2.out.bx.cell 2
    go_wp2_with fail
    refine (back_any t x A B c d S S _ H64.out hlc hc K2.out.lev (fun b hb => Nat.lt_of_lt_of_le (HS.out b hb) K2.out.bel.size) HN.out HX.out.1 HX.out.2 hxd hd K2.out.ex (fun b hb => Nat.lt_of_lt_of_le (HS.out b hb) K2.out.bel.size)).mono ?_
    rintro e w3 ⟨zs, rfl, hzv, hzr, hzt, hb3⟩
    obtain ⟨ZA, zc, rfl, hzc1, hzc2, hZE⟩ := hzv.slice
    have K3 := Lib.hid (K2.out.below hb3)
    have HZ3 := Lib.hid (And.intro hzr (And.intro hzt (And.intro hzc1 (And.intro hzc2 hZE))))
    clear hzv hzr hzt hzc1 hzc2 hZE hb3 a0 a1 a2 a3 a4 x0 x1 x2 K2
    have hba : Below w3.heap.size w3 (w3.alloc (.cells #[.int .i64 (backV t x).rule, .int .i64 (backV t x).term, .slice ZA (backV t x).kids.length zc] 27)) := (Below.refl _ _).alloc (Nat.le_refl _) _
    obtain ⟨w4, hw4⟩ : ∃ w4 : World, w4 = w3.alloc (.cells #[.int .i64 (backV t x).rule, .int .i64 (backV t x).term, .slice ZA (backV t x).kids.length zc] 27) := ⟨_, rfl⟩
    obtain ⟨Sz, hSz⟩ : ∃ Sz : Nat → Prop, Sz = fun b => w2.heap.size ≤ b ∧ b < w3.heap.size := ⟨_, rfl⟩
    have K4 : Hid (PZ w t x y A B D c d k S (backV t x) w3.heap.size ZA zc Sz w4) := Lib.hid ⟨by rw [hw4]; exact K3.out.below hba, by rw [hw4]; exact Blk'.new w3 _ _, by rw [hw4, hSz]; exact HZ3.out.2.2.2.2.below hba⟩
    have HW4 := Lib.hid hw4
    have hzc := HZ3.out.2.2.1
    have hzm := HZ3.out.2.2.2.1
    clear hw4 hba hSz
    go_upto_region 6 with (fail)
    rw [← HW4.out]
    obtain ⟨z, hz⟩ : ∃ z, backV t x = z := ⟨_, rfl⟩
    obtain ⟨be, hbe⟩ : ∃ be, backE t x = be := ⟨_, rfl⟩
    rw [hz] at K4 hzc
    rw [hz, hbe]
    obtain ⟨zb, hzb⟩ : ∃ zb, w3.heap.size = zb := ⟨_, rfl⟩
    rw [hzb] at K4 ⊢
    have HZ := Lib.hid (And.intro hz hbe)
    clear hz hbe HZ3 hzb HW4
    have a0 : w4.cell? ⟨w.heap.size, 0, none⟩ = some (.int .i64 t.terms) := K4.out.pk.tab.cell 0
    have a1 : w4.cell? ⟨w.heap.size, 1, none⟩ = some (.int .i64 t.atom) := K4.out.pk.tab.cell 1
    have a2 : w4.cell? ⟨w.heap.size, 2, none⟩ = some (.int .i64 t.opn) := K4.out.pk.tab.cell 2
    have a3 : w4.cell? ⟨w.heap.size, 3, none⟩ = some (.int .i64 t.cls) := K4.out.pk.tab.cell 3
    have a4 : w4.cell? ⟨w.heap.size, 4, none⟩ = some (.slice A t.levels.length c) := K4.out.pk.tab.cell 4
    have y0 : w4.cell? ⟨w.heap.size + 1 + 1, 0, none⟩ = some (.int .i64 y.rule) := K4.out.pk.by_.cell 0
    have y1 : w4.cell? ⟨w.heap.size + 1 + 1, 1, none⟩ = some (.int .i64 y.term) := K4.out.pk.by_.cell 1
    have y2 : w4.cell? ⟨w.heap.size + 1 + 1, 2, none⟩ = some (.slice D y.kids.length k) := K4.out.pk.by_.cell 2
    go_wp2_with fail
    refine (allowed_any t y A D c k S S _ H64.out hlc hc K4.out.pk.lev (fun b hb => Nat.lt_of_lt_of_le (HS.out b hb) K4.out.pk.bel.size) HN.out HY.out.1 HY.out.2 hyk hk K4.out.pk.ey (fun b hb => Nat.lt_of_lt_of_le (HS.out b hb) K4.out.pk.bel.size)).mono ?_
    rintro e w5 ⟨rfl, hb5⟩
    have K5 := Lib.hid (K4.out.below hb5)
    obtain ⟨av, hav⟩ : ∃ av, allowV t y = av := ⟨_, rfl⟩
    obtain ⟨ae, hae⟩ : ∃ ae, allowEr t y = ae := ⟨_, rfl⟩
    rw [hav, hae]
    have HAV := Lib.hid (And.intro hav hae)
    clear hb5 hav hae a0 a1 a2 a3 a4 y0 y1 y2 K4
    have a0 : w5.cell? ⟨w.heap.size, 0, none⟩ = some (.int .i64 t.terms) := K5.out.pk.tab.cell 0
    have a1 : w5.cell? ⟨w.heap.size, 1, none⟩ = some (.int .i64 t.atom) := K5.out.pk.tab.cell 1
    have a2 : w5.cell? ⟨w.heap.size, 2, none⟩ = some (.int .i64 t.opn) := K5.out.pk.tab.cell 2
    have a3 : w5.cell? ⟨w.heap.size, 3, none⟩ = some (.int .i64 t.cls) := K5.out.pk.tab.cell 3
    have a4 : w5.cell? ⟨w.heap.size, 4, none⟩ = some (.slice A t.levels.length c) := K5.out.pk.tab.cell 4
    go_wp2_with fail
    refine (precErr_any t A c S _ H64.out hlc hc K5.out.pk.lev (fun b hb => Nat.lt_of_lt_of_le (HS.out b hb) K5.out.pk.bel.size) HN.out).mono ?_
    rintro e w6 ⟨rfl, hb6⟩
    have K6 := Lib.hid (K5.out.below hb6)
    clear hb6 a0 a1 a2 a3 a4 K5
    by_cases h0 : precCheck t = 0
    · have V := Lib.hid (valid_of h0)
      have EG := Lib.hid (show layG t = ⟨t.terms, ((t.levels.length : Int) + 1), 0, layRules (brk t) t⟩ by simp [layG, h0])
      have EL := Lib.hid (show layL t = layTo (brk t) t by simp [layL, h0])
      have EF := Lib.hid (show flatG t = ⟨t.terms, 1, 0, flatRules t⟩ by simp [flatG, h0])
      have HBE := Lib.hid (show be = treeE ⟨t.terms, ((t.levels.length : Int) + 1), 0, layRules (brk t) t⟩ x by rw [← HZ.out.2, backE, if_pos h0, EG.out])
      have HZV := Lib.hid (show z = if be = 0 then backT (layTo (brk t) t) x else ⟨0, 0, []⟩ by rw [HBE.out, ← HZ.out.1, backV, if_pos h0, EG.out, EL.out]; rfl)
      have HAE := Lib.hid (show ae = treeE ⟨t.terms, 1, 0, flatRules t⟩ y by rw [← HAV.out.2, allowEr, if_pos h0, EF.out])
      have HAA := Lib.hid (show av = if ae = 0 then allowE t y else false by rw [HAE.out, ← HAV.out.1, allowV, if_pos h0, EF.out])
      rw [h0]
      clear h0 HZ HAV EG EL EF
      have HRL := Lib.hid (lay_len V.out)
      have HFL := Lib.hid (flat_lenV V.out)
      have HRR := Lib.hid (rules_len (t := t))
      have HFR := Lib.hid (frules_len (t := t))
      have a0 : w6.cell? ⟨w.heap.size, 0, none⟩ = some (.int .i64 t.terms) := K6.out.pk.tab.cell 0
      have a1 : w6.cell? ⟨w.heap.size, 1, none⟩ = some (.int .i64 t.atom) := K6.out.pk.tab.cell 1
      have a2 : w6.cell? ⟨w.heap.size, 2, none⟩ = some (.int .i64 t.opn) := K6.out.pk.tab.cell 2
      have a3 : w6.cell? ⟨w.heap.size, 3, none⟩ = some (.int .i64 t.cls) := K6.out.pk.tab.cell 3
      have a4 : w6.cell? ⟨w.heap.size, 4, none⟩ = some (.slice A t.levels.length c) := K6.out.pk.tab.cell 4
      go_wp2_with fail
      refine (refLay_any t A c S _ H64.out hlc hc (by have := V.out.levels; omega) K6.out.pk.lev (fun b hb => Nat.lt_of_lt_of_le (HS.out b hb) K6.out.pk.bel.size) V.out.kinds (V.out.small _).2.1).mono ?_
      rintro e w7 ⟨v7, u7, rfl, h7, hb7⟩
      rw [← V.out.hbrk] at h7
      obtain ⟨A7, n7, q7, e7, hn7, hq7, hm7⟩ : ∃ A n c, v7 = Value.slice A n c ∧ n = (layRules (brk t) t).length ∧ n ≤ c ∧ c ≤ 9223372036854775807 := by obtain ⟨A, c, e, h1, h2, _⟩ := h7.1.form; exact ⟨_, _, _, e, rfl, h1, h2⟩
      obtain ⟨A8, n8, q8, e8, hn8, hq8, hm8⟩ : ∃ A n c, u7 = Value.slice A n c ∧ n = (layTo (brk t) t).length ∧ n ≤ c ∧ c ≤ 9223372036854775807 := by obtain ⟨A, c, e, h1, h2, _⟩ := h7.2.1.form; exact ⟨_, _, _, e, rfl, h1, h2⟩
      subst e7; subst e8; subst hn7; subst hn8
      have hba : Below w7.heap.size w7 (w7.alloc (.cells #[.int .i64 t.terms, .int .i64 ((t.levels.length : Int) + 1), .int .i64 0, .slice A7 (layRules (brk t) t).length q7] 38)) := (Below.refl _ _).alloc (Nat.le_refl _) _
      obtain ⟨Sg, hSg⟩ : ∃ Sg : Nat → Prop, Sg = fun b => (False ∨ w6.heap.size ≤ b) ∧ b < w7.heap.size := ⟨_, rfl⟩
      obtain ⟨w8, hw8⟩ : ∃ w8 : World, w8 = w7.alloc (.cells #[.int .i64 t.terms, .int .i64 ((t.levels.length : Int) + 1), .int .i64 0, .slice A7 (layRules (brk t) t).length q7] 38) := ⟨_, rfl⟩
      have K8 : Hid (PZ w t x y A B D c d k S z zb ZA zc Sz w8) := Lib.hid (by rw [hw8]; exact (K6.out.below hb7).below hba)
      have G8 : Hid (Els w8 Sg (layRules (brk t) t) A7 ∧ Els w8 Sg (layTo (brk t) t) A8 ∧ ∀ b, Sg b → b < w8.heap.size) := Lib.hid (by rw [hw8, hSg]; exact ⟨h7.vl1.els.2.2.2.below hba, h7.vl2.els.2.2.2.below hba, fun b hb => by have := hb.2; simp; omega⟩)
      have hGb : Blk' w8 w7.heap.size 38 #[.int .i64 t.terms, .int .i64 ((t.levels.length : Int) + 1), .int .i64 0, .slice A7 (layRules (brk t) t).length q7] := by rw [hw8]; exact Blk'.new w7 _ _
      have HW8 := Lib.hid hw8
      have g0 : w8.cell? ⟨w7.heap.size, 0, none⟩ = some (.int .i64 t.terms) := hGb.cell 0
      have g1 : w8.cell? ⟨w7.heap.size, 1, none⟩ = some (.int .i64 ((t.levels.length : Int) + 1)) := hGb.cell 1
      have g2 : w8.cell? ⟨w7.heap.size, 2, none⟩ = some (.int .i64 0) := hGb.cell 2
      have g3 : w8.cell? ⟨w7.heap.size, 3, none⟩ = some (.slice A7 (layRules (brk t) t).length q7) := hGb.cell 3
      have x0 : w8.cell? ⟨w.heap.size + 1, 0, none⟩ = some (.int .i64 x.rule) := K8.out.pk.bx.cell 0
      have x1 : w8.cell? ⟨w.heap.size + 1, 1, none⟩ = some (.int .i64 x.term) := K8.out.pk.bx.cell 1
      have x2 : w8.cell? ⟨w.heap.size + 1, 2, none⟩ = some (.slice B x.kids.length d) := K8.out.pk.bx.cell 2
      clear h7 hb7 hw8 hba hGb hSg a0 a1 a2 a3 a4 K6
      go_upto_region 11 with (fail)
      rw [← HW8.out]
      go_wp2_with fail
      refine (treeErr_any ⟨t.terms, ((t.levels.length : Int) + 1), 0, layRules (brk t) t⟩ A7 q7 Sg S x B d _ HRL.out HRR.out G8.out.1 HX.out.1 HX.out.2 hxd hd K8.out.pk.ex).mono ?_
      rintro e w9 ⟨rfl, hb9⟩
      rw [← HBE.out]
      have K9 := Lib.hid (K8.out.below hb9)
      have G9 : Hid (Els w9 Sg (layTo (brk t) t) A8 ∧ ∀ b, Sg b → b < w9.heap.size) := Lib.hid ⟨G8.out.2.1.below hb9, fun b hb => Nat.lt_of_lt_of_le (G8.out.2.2 b hb) hb9.size⟩
      clear hb9 g0 g1 g2 g3 x0 x1 x2 K8 G8 HW8
      go_upto_region 12 with (fail)
      go_cut [103] (fun v wx => v = .bool false ∧ Below w9.heap.size w9 wx)
      case first =>
        have zz : zb < w9.heap.size := K9.out.bz.lt
        have zx : w.heap.size + 1 < w9.heap.size := K9.out.pk.bx.lt
        by_cases hbe : be = 0
        · have HOK : Hid (okB (layTo (brk t) t) x) := Lib.hid (okB_of (lay_to (brk t) t) x _ (vt_of_visit ⟨t.terms, ((t.levels.length : Int) + 1), 0, layRules (brk t) t⟩ x 0 (HBE.out.symm.trans hbe)))
          have HZ2 := Lib.hid (show backT (layTo (brk t) t) x = z by rw [HZV.out, if_pos hbe])
          have hq0 : (be != be) = false := by simp
          have hq1 : (be != 0) = false := by simpa using hbe
          have hq2 : (be == 0) = true := by simpa using hbe
          clear hbe
          have z0 : w9.cell? ⟨zb, 0, none⟩ = some (.int .i64 z.rule) := K9.out.bz.cell 0
          have z1 : w9.cell? ⟨zb, 1, none⟩ = some (.int .i64 z.term) := K9.out.bz.cell 1
          have z2 : w9.cell? ⟨zb, 2, none⟩ = some (.slice ZA z.kids.length zc) := K9.out.bz.cell 2
          have x0 : w9.cell? ⟨w.heap.size + 1, 0, none⟩ = some (.int .i64 x.rule) := K9.out.pk.bx.cell 0
          have x1 : w9.cell? ⟨w.heap.size + 1, 1, none⟩ = some (.int .i64 x.term) := K9.out.pk.bx.cell 1
          have x2 : w9.cell? ⟨w.heap.size + 1, 2, none⟩ = some (.slice B x.kids.length d) := K9.out.pk.bx.cell 2
          have hlt8 : (layTo (brk t) t).length ≤ 1000000 := (V.out.small (brk t)).2.1.2
          refine wp_region_noPanic ?_
          refine wp_region_held_drew (S := (fun w' => w'.cell? ⟨w.heap.size + 1, 0, none⟩ = some (.int .i64 x.rule) ∧ w'.cell? ⟨w.heap.size + 1, 1, none⟩ = some (.int .i64 x.term) ∧ w'.cell? ⟨w.heap.size + 1, 2, none⟩ = some (.slice B x.kids.length d) ∧ w'.cell? ⟨zb, 0, none⟩ = some (.int .i64 z.rule) ∧ w'.cell? ⟨zb, 1, none⟩ = some (.int .i64 z.term) ∧ w'.cell? ⟨zb, 2, none⟩ = some (.slice ZA z.kids.length zc))) (by kernel_rfl) ?hp (fun hHeld => ?bp)
          case hp => ((try dsimp only); go_keep)
          refine take_run (i := 0) (v := ?vp0) rfl (by kernel_rfl) (by kernel_rfl) (by kernel_rfl) (fun _ _ _ h => h) (by rfl) ?yp0 (by assumption) ?rp0
          case yp0 => (intro w hSw; (try dsimp only at hSw); go_simp; try with_reducible rfl)
          try simp only [Act.put, List.setIfInBounds_toArray, List.set_cons_zero, List.set_cons_succ]
          refine take_run (i := 1) (v := ?vp1) rfl (by kernel_rfl) (by kernel_rfl) (by kernel_rfl) (fun _ _ _ h => h) (by rfl) ?yp1 (by assumption) ?rp1
          case yp1 => (intro w hSw; (try dsimp only at hSw); go_simp; try with_reducible rfl)
          try simp only [Act.put, List.setIfInBounds_toArray, List.set_cons_zero, List.set_cons_succ]
          refine take_run (i := 2) (v := ?vp2) rfl (by kernel_rfl) (by kernel_rfl) (by kernel_rfl) (fun _ _ _ h => h) (by rfl) ?yp2 (by assumption) ?rp2
          case yp2 => (intro w hSw; (try dsimp only at hSw); go_simp; try with_reducible rfl)
          try simp only [Act.put, List.setIfInBounds_toArray, List.set_cons_zero, List.set_cons_succ]
          refine take_run (i := 3) (v := ?vp3) rfl (by kernel_rfl) (by kernel_rfl) (by kernel_rfl) (fun _ _ _ h => h) (by rfl) ?yp3 (by assumption) ?rp3
          case yp3 => (intro w hSw; (try dsimp only at hSw); go_simp; try with_reducible rfl)
          try simp only [Act.put, List.setIfInBounds_toArray, List.set_cons_zero, List.set_cons_succ]
          refine take_run (i := 4) (v := ?vp4) rfl (by kernel_rfl) (by kernel_rfl) (by kernel_rfl) (fun _ _ _ h => h) (by rfl) ?yp4 (by assumption) ?rp4
          case yp4 => (intro w hSw; (try dsimp only at hSw); go_simp; try with_reducible rfl)
          try simp only [Act.put, List.setIfInBounds_toArray, List.set_cons_zero, List.set_cons_succ]
          refine take_run (i := 5) (v := ?vp5) rfl (by kernel_rfl) (by kernel_rfl) (by kernel_rfl) (fun _ _ _ h => h) (by rfl) ?yp5 (by assumption) ?rp5
          case yp5 => (intro w hSw; (try dsimp only at hSw); go_simp; try with_reducible rfl)
          try simp only [Act.put, List.setIfInBounds_toArray, List.set_cons_zero, List.set_cons_succ]
          refine take_run (i := 6) (v := ?vp6) rfl (by kernel_rfl) (by kernel_rfl) (by kernel_rfl) (fun _ _ _ h => h) (by rfl) ?yp6 (by assumption) ?rp6
          case yp6 => (intro w hSw; (try dsimp only at hSw); go_simp; try with_reducible rfl)
          try simp only [Act.put, List.setIfInBounds_toArray, List.set_cons_zero, List.set_cons_succ]
          refine take_bar (i := 7) rfl (by kernel_rfl) (by kernel_rfl) (by kernel_rfl) (fun _ _ _ h => h) (by rfl) (by assumption) ?_
          try simp only [Act.put, List.setIfInBounds_toArray, List.set_cons_zero, List.set_cons_succ]
          refine take_bar (i := 8) rfl (by kernel_rfl) (by kernel_rfl) (by kernel_rfl) (fun _ _ _ h => h) (by rfl) (by assumption) ?_
          try simp only [Act.put, List.setIfInBounds_toArray, List.set_cons_zero, List.set_cons_succ]
          refine take_bar (i := 9) rfl (by kernel_rfl) (by kernel_rfl) (by kernel_rfl) (fun _ _ _ h => h) (by rfl) (by assumption) ?_
          try simp only [Act.put, List.setIfInBounds_toArray, List.set_cons_zero, List.set_cons_succ]
          refine take_bar (i := 10) rfl (by kernel_rfl) (by kernel_rfl) (by kernel_rfl) (fun _ _ _ h => h) (by rfl) (by assumption) ?_
          try simp only [Act.put, List.setIfInBounds_toArray, List.set_cons_zero, List.set_cons_succ]
          refine take_run (i := 11) (v := ?vp11) rfl (by kernel_rfl) (by kernel_rfl) (by kernel_rfl) (fun _ _ _ h => h) (by rfl) ?yp11 (by assumption) ?rp11
          case yp11 => (intro w hSw; (try dsimp only at hSw); go_simp; try with_reducible rfl)
          try simp only [Act.put, List.setIfInBounds_toArray, List.set_cons_zero, List.set_cons_succ]
          refine take_run (i := 12) (v := ?vp12) rfl (by kernel_rfl) (by kernel_rfl) (by kernel_rfl) (fun _ _ _ h => h) (by rfl) ?yp12 (by assumption) ?rp12
          case yp12 => (intro w hSw; (try dsimp only at hSw); go_simp; try with_reducible rfl)
          try simp only [Act.put, List.setIfInBounds_toArray, List.set_cons_zero, List.set_cons_succ]
          refine take_run (i := 13) (v := ?vp13) rfl (by kernel_rfl) (by kernel_rfl) (by kernel_rfl) (fun _ _ _ h => h) (by rfl) ?yp13 (by assumption) ?rp13
          case yp13 => (intro w hSw; (try dsimp only at hSw); go_simp; try with_reducible rfl)
          try simp only [Act.put, List.setIfInBounds_toArray, List.set_cons_zero, List.set_cons_succ]
          refine take_run (i := 14) (v := ?vp14) rfl (by kernel_rfl) (by kernel_rfl) (by kernel_rfl) (fun _ _ _ h => h) (by rfl) ?yp14 (by assumption) ?rp14
          case yp14 => (intro w hSw; (try dsimp only at hSw); go_simp; try with_reducible rfl)
          try simp only [Act.put, List.setIfInBounds_toArray, List.set_cons_zero, List.set_cons_succ]
          refine take_run (i := 15) (v := ?vp15) rfl (by kernel_rfl) (by kernel_rfl) (by kernel_rfl) (fun _ _ _ h => h) (by rfl) ?yp15 (by assumption) ?rp15
          case yp15 => (intro w hSw; (try dsimp only at hSw); go_simp; try with_reducible rfl)
          try simp only [Act.put, List.setIfInBounds_toArray, List.set_cons_zero, List.set_cons_succ]
          refine take_run (i := 16) (v := ?vp16) rfl (by kernel_rfl) (by kernel_rfl) (by kernel_rfl) (fun _ _ _ h => h) (by rfl) ?yp16 (by assumption) ?rp16
          case yp16 => (intro w hSw; (try dsimp only at hSw); go_simp; try with_reducible rfl)
          try simp only [Act.put, List.setIfInBounds_toArray, List.set_cons_zero, List.set_cons_succ]
          refine take_run (i := 17) (v := ?vp17) rfl (by kernel_rfl) (by kernel_rfl) (by kernel_rfl) (fun _ _ _ h => h) (by rfl) ?yp17 (by assumption) ?rp17
          case yp17 => (intro w hSw; (try dsimp only at hSw); go_simp; try with_reducible rfl)
          try simp only [Act.put, List.setIfInBounds_toArray, List.set_cons_zero, List.set_cons_succ]
          refine take_run (i := 18) (v := ?vp18) rfl (by kernel_rfl) (by kernel_rfl) (by kernel_rfl) (fun _ _ _ h => h) (by rfl) ?yp18 (by assumption) ?rp18
          case yp18 => (intro w hSw; (try dsimp only at hSw); go_simp; try with_reducible rfl)
          try simp only [Act.put, List.setIfInBounds_toArray, List.set_cons_zero, List.set_cons_succ]
          refine take_run (i := 19) (v := ?vp19) rfl (by kernel_rfl) (by kernel_rfl) (by kernel_rfl) (fun _ _ _ h => h) (by rfl) ?yp19 (by assumption) ?rp19
          case yp19 => (intro w hSw; (try dsimp only at hSw); go_simp; try with_reducible rfl)
          try simp only [Act.put, List.setIfInBounds_toArray, List.set_cons_zero, List.set_cons_succ]
          refine take_call (i := 20) rfl (by kernel_rfl) (by rfl) (fun K hK => ?_)
          go_simp
          go_at_call 17
          refine (rback_any S Sg (layTo (brk t) t) A8 q8 hlt8 (nodesT x) x B d _ (Nat.le_refl _) HOK.out HX.out.2 hxd hd (K9.out.pk.ex.below (Below.refl _ _).drew) (G9.out.1.below (Below.refl _ _).drew) (fun b hb => by rcases hb with hb | hb; exact Nat.lt_of_lt_of_le (HS.out b hb) K9.out.pk.bel.size; exact G9.out.2 b hb)).mono ?_
          rintro e w10 ⟨A10, d10, rfl, j1, j2, j3, j4, j5, hb10⟩
          rw [HZ2.out] at j3 j5 ⊢
          have HJ := Lib.hid (And.intro j3 (And.intro j4 j5))
          have H10 := Lib.hid (bundrew hb10)
          have n0 := (H10.out.cell (p := ⟨zb, 0, none⟩) zz).trans z0
          have n1 := (H10.out.cell (p := ⟨zb, 1, none⟩) zz).trans z1
          have n2 := (H10.out.cell (p := ⟨zb, 2, none⟩) zz).trans z2
          have y0 := (H10.out.cell (p := ⟨w.heap.size + 1, 0, none⟩) zx).trans x0
          have y1 := (H10.out.cell (p := ⟨w.heap.size + 1, 1, none⟩) zx).trans x1
          have y2 := (H10.out.cell (p := ⟨w.heap.size + 1, 2, none⟩) zx).trans x2
          clear j1 j2 j3 j4 j5 hb10
          dsimp only
          refine hK.out _ _ ?hp20 (fun hHeld => ?rp20)
          case hp20 => ((try dsimp only); go_keep)
          clear hK K
          try simp only [Act.put, List.setIfInBounds_toArray, List.set_cons_zero, List.set_cons_succ]
          refine take_call (i := 21) rfl (by kernel_rfl) (by rfl) (fun K hK => ?_)
          go_simp
          go_at_call 14
          refine (same_true z ZA A10 zc d10 Sz _ _ ⟨hzc, hzm⟩ ⟨HJ.out.1, HJ.out.2.1⟩ (K9.out.ez.below H10.out) HJ.out.2.2).mono ?_
          rintro e w11 ⟨rfl, hb11⟩
          have H11 := Lib.hid (bthen H10.out hb11 H10.out.size)
          have q0 := (H11.out.cell (p := ⟨zb, 0, none⟩) zz).trans z0
          have q1 := (H11.out.cell (p := ⟨zb, 1, none⟩) zz).trans z1
          have q2 := (H11.out.cell (p := ⟨zb, 2, none⟩) zz).trans z2
          have r0 := (H11.out.cell (p := ⟨w.heap.size + 1, 0, none⟩) zx).trans x0
          have r1 := (H11.out.cell (p := ⟨w.heap.size + 1, 1, none⟩) zx).trans x1
          have r2 := (H11.out.cell (p := ⟨w.heap.size + 1, 2, none⟩) zx).trans x2
          clear hb11
          dsimp only
          refine hK.out _ _ ?hp21 (fun hHeld => ?rp21)
          case hp21 => ((try dsimp only); go_keep)
          clear hK K
          try simp only [Act.put, List.setIfInBounds_toArray, List.set_cons_zero, List.set_cons_succ]
          refine take_run (i := 22) (v := ?vp22) rfl (by kernel_rfl) (by kernel_rfl) (by kernel_rfl) (fun _ _ _ h => h) (by rfl) ?yp22 (by assumption) ?rp22
          case yp22 => (intro w hSw; (try dsimp only at hSw); go_simp; try with_reducible rfl)
          try simp only [Act.put, List.setIfInBounds_toArray, List.set_cons_zero, List.set_cons_succ]
          refine take_run (i := 23) (v := ?vp23) rfl (by kernel_rfl) (by kernel_rfl) (by kernel_rfl) (fun _ _ _ h => h) (by rfl) ?yp23 (by assumption) ?rp23
          case yp23 => (intro w hSw; (try dsimp only at hSw); go_simp; try with_reducible rfl)
          try simp only [Act.put, List.setIfInBounds_toArray, List.set_cons_zero, List.set_cons_succ]
          refine take_run (i := 24) (v := ?vp24) rfl (by kernel_rfl) (by kernel_rfl) (by kernel_rfl) (fun _ _ _ h => h) (by rfl) ?yp24 (by assumption) ?rp24
          case yp24 => (intro w hSw; (try dsimp only at hSw); go_simp; try with_reducible rfl)
          try simp only [Act.put, List.setIfInBounds_toArray, List.set_cons_zero, List.set_cons_succ]
          refine wpAnyH_done (by kernel_rfl) ?_ _
          refine NoPanic.normal ?_
          all_goals
            go_wp2_with fail
            go_meet
            exact ⟨rfl, H11.out⟩
        · have hz : z = ⟨0, 0, []⟩ := by rw [HZV.out, if_neg hbe]
          subst hz
          have hq0 : (be != be) = false := by simp
          have hq1 : (be != 0) = true := by simpa using hbe
          have hq2 : (be == 0) = false := by simpa using hbe
          have z0 : w9.cell? ⟨zb, 0, none⟩ = some (.int .i64 0) := K9.out.bz.cell 0
          have z1 : w9.cell? ⟨zb, 1, none⟩ = some (.int .i64 0) := K9.out.bz.cell 1
          have z2 : w9.cell? ⟨zb, 2, none⟩ = some (.slice ZA 0 zc) := K9.out.bz.cell 2
          clear hbe HZV HBE
          refine wp_region_noPanic ?_
          refine wp_region_held_drew (S := (fun w' => w'.cell? ⟨zb, 0, none⟩ = some (.int .i64 0) ∧ w'.cell? ⟨zb, 1, none⟩ = some (.int .i64 0) ∧ w'.cell? ⟨zb, 2, none⟩ = some (.slice ZA 0 zc))) (by kernel_rfl) ?hq (fun hHeld => ?bq)
          case hq => ((try dsimp only); go_keep)
          refine take_run (i := 0) (v := ?vq0) rfl (by kernel_rfl) (by kernel_rfl) (by kernel_rfl) (fun _ _ _ h => h) (by rfl) ?yq0 (by assumption) ?rq0
          case yq0 => (intro w hSw; (try dsimp only at hSw); go_simp; try with_reducible rfl)
          try simp only [Act.put, List.setIfInBounds_toArray, List.set_cons_zero, List.set_cons_succ]
          refine take_run (i := 1) (v := ?vq1) rfl (by kernel_rfl) (by kernel_rfl) (by kernel_rfl) (fun _ _ _ h => h) (by rfl) ?yq1 (by assumption) ?rq1
          case yq1 => (intro w hSw; (try dsimp only at hSw); go_simp; try with_reducible rfl)
          try simp only [Act.put, List.setIfInBounds_toArray, List.set_cons_zero, List.set_cons_succ]
          refine take_run (i := 2) (v := ?vq2) rfl (by kernel_rfl) (by kernel_rfl) (by kernel_rfl) (fun _ _ _ h => h) (by rfl) ?yq2 (by assumption) ?rq2
          case yq2 => (intro w hSw; (try dsimp only at hSw); go_simp; try with_reducible rfl)
          try simp only [Act.put, List.setIfInBounds_toArray, List.set_cons_zero, List.set_cons_succ]
          refine take_run (i := 3) (v := ?vq3) rfl (by kernel_rfl) (by kernel_rfl) (by kernel_rfl) (fun _ _ _ h => h) (by rfl) ?yq3 (by assumption) ?rq3
          case yq3 => (intro w hSw; (try dsimp only at hSw); go_simp; try with_reducible rfl)
          try simp only [Act.put, List.setIfInBounds_toArray, List.set_cons_zero, List.set_cons_succ]
          refine take_run (i := 4) (v := ?vq4) rfl (by kernel_rfl) (by kernel_rfl) (by kernel_rfl) (fun _ _ _ h => h) (by rfl) ?yq4 (by assumption) ?rq4
          case yq4 => (intro w hSw; (try dsimp only at hSw); go_simp; try with_reducible rfl)
          try simp only [Act.put, List.setIfInBounds_toArray, List.set_cons_zero, List.set_cons_succ]
          refine take_run (i := 5) (v := ?vq5) rfl (by kernel_rfl) (by kernel_rfl) (by kernel_rfl) (fun _ _ _ h => h) (by rfl) ?yq5 (by assumption) ?rq5
          case yq5 => (intro w hSw; (try dsimp only at hSw); go_simp; try with_reducible rfl)
          try simp only [Act.put, List.setIfInBounds_toArray, List.set_cons_zero, List.set_cons_succ]
          refine take_run (i := 6) (v := ?vq6) rfl (by kernel_rfl) (by kernel_rfl) (by kernel_rfl) (fun _ _ _ h => h) (by rfl) ?yq6 (by assumption) ?rq6
          case yq6 => (intro w hSw; (try dsimp only at hSw); go_simp; try with_reducible rfl)
          try simp only [Act.put, List.setIfInBounds_toArray, List.set_cons_zero, List.set_cons_succ]
          refine take_run (i := 7) (v := ?vq7) rfl (by kernel_rfl) (by kernel_rfl) (by kernel_rfl) (fun _ _ _ h => h) (by rfl) ?yq7 (by assumption) ?rq7
          case yq7 => (intro w hSw; (try dsimp only at hSw); go_simp; try with_reducible rfl)
          try simp only [Act.put, List.setIfInBounds_toArray, List.set_cons_zero, List.set_cons_succ]
          refine take_run (i := 8) (v := ?vq8) rfl (by kernel_rfl) (by kernel_rfl) (by kernel_rfl) (fun _ _ _ h => h) (by rfl) ?yq8 (by assumption) ?rq8
          case yq8 => (intro w hSw; (try dsimp only at hSw); go_simp; try with_reducible rfl)
          try simp only [Act.put, List.setIfInBounds_toArray, List.set_cons_zero, List.set_cons_succ]
          refine take_call (i := 9) rfl (by kernel_rfl) (by rfl) (fun K hK => ?_)
          go_simp
          go_at_call 14
          refine (same_zero ZA zc Sz _ hzm).mono ?_
          rintro e w11 ⟨rfl, hb11⟩
          have H11 := Lib.hid (bundrew hb11)
          have q0 := (H11.out.cell (p := ⟨zb, 0, none⟩) zz).trans z0
          have q1 := (H11.out.cell (p := ⟨zb, 1, none⟩) zz).trans z1
          have q2 := (H11.out.cell (p := ⟨zb, 2, none⟩) zz).trans z2
          clear hb11
          dsimp only
          refine hK.out _ _ ?hq9 (fun hHeld => ?rq9)
          case hq9 => ((try dsimp only); go_keep)
          clear hK K
          try simp only [Act.put, List.setIfInBounds_toArray, List.set_cons_zero, List.set_cons_succ]
          refine take_run (i := 10) (v := ?vq10) rfl (by kernel_rfl) (by kernel_rfl) (by kernel_rfl) (fun _ _ _ h => h) (by rfl) ?yq10 (by assumption) ?rq10
          case yq10 => (intro w hSw; (try dsimp only at hSw); go_simp; try with_reducible rfl)
          try simp only [Act.put, List.setIfInBounds_toArray, List.set_cons_zero, List.set_cons_succ]
          refine take_run (i := 11) (v := ?vq11) rfl (by kernel_rfl) (by kernel_rfl) (by kernel_rfl) (fun _ _ _ h => h) (by rfl) ?yq11 (by assumption) ?rq11
          case yq11 => (intro w hSw; (try dsimp only at hSw); go_simp; try with_reducible rfl)
          try simp only [Act.put, List.setIfInBounds_toArray, List.set_cons_zero, List.set_cons_succ]
          refine take_run (i := 12) (v := ?vq12) rfl (by kernel_rfl) (by kernel_rfl) (by kernel_rfl) (fun _ _ _ h => h) (by rfl) ?yq12 (by assumption) ?rq12
          case yq12 => (intro w hSw; (try dsimp only at hSw); go_simp; try with_reducible rfl)
          try simp only [Act.put, List.setIfInBounds_toArray, List.set_cons_zero, List.set_cons_succ]
          refine take_run (i := 13) (v := ?vq13) rfl (by kernel_rfl) (by kernel_rfl) (by kernel_rfl) (fun _ _ _ h => h) (by rfl) ?yq13 (by assumption) ?rq13
          case yq13 => (intro w hSw; (try dsimp only at hSw); go_simp; try with_reducible rfl)
          try simp only [Act.put, List.setIfInBounds_toArray, List.set_cons_zero, List.set_cons_succ]
          refine take_run (i := 14) (v := ?vq14) rfl (by kernel_rfl) (by kernel_rfl) (by kernel_rfl) (fun _ _ _ h => h) (by rfl) ?yq14 (by assumption) ?rq14
          case yq14 => (intro w hSw; (try dsimp only at hSw); go_simp; try with_reducible rfl)
          try simp only [Act.put, List.setIfInBounds_toArray, List.set_cons_zero, List.set_cons_succ]
          refine take_run (i := 15) (v := ?vq15) rfl (by kernel_rfl) (by kernel_rfl) (by kernel_rfl) (fun _ _ _ h => h) (by rfl) ?yq15 (by assumption) ?rq15
          case yq15 => (intro w hSw; (try dsimp only at hSw); go_simp; try with_reducible rfl)
          try simp only [Act.put, List.setIfInBounds_toArray, List.set_cons_zero, List.set_cons_succ]
          refine take_run (i := 16) (v := ?vq16) rfl (by kernel_rfl) (by kernel_rfl) (by kernel_rfl) (fun _ _ _ h => h) (by rfl) ?yq16 (by assumption) ?rq16
          case yq16 => (intro w hSw; (try dsimp only at hSw); go_simp; try with_reducible rfl)
          try simp only [Act.put, List.setIfInBounds_toArray, List.set_cons_zero, List.set_cons_succ]
          refine take_bar (i := 17) rfl (by kernel_rfl) (by kernel_rfl) (by kernel_rfl) (fun _ _ _ h => h) (by rfl) (by assumption) ?_
          try simp only [Act.put, List.setIfInBounds_toArray, List.set_cons_zero, List.set_cons_succ]
          refine take_bar (i := 18) rfl (by kernel_rfl) (by kernel_rfl) (by kernel_rfl) (fun _ _ _ h => h) (by rfl) (by assumption) ?_
          try simp only [Act.put, List.setIfInBounds_toArray, List.set_cons_zero, List.set_cons_succ]
          refine take_bar (i := 19) rfl (by kernel_rfl) (by kernel_rfl) (by kernel_rfl) (fun _ _ _ h => h) (by rfl) (by assumption) ?_
          try simp only [Act.put, List.setIfInBounds_toArray, List.set_cons_zero, List.set_cons_succ]
          refine take_bar (i := 20) rfl (by kernel_rfl) (by kernel_rfl) (by kernel_rfl) (fun _ _ _ h => h) (by rfl) (by assumption) ?_
          try simp only [Act.put, List.setIfInBounds_toArray, List.set_cons_zero, List.set_cons_succ]
          refine take_bar (i := 21) rfl (by kernel_rfl) (by kernel_rfl) (by kernel_rfl) (fun _ _ _ h => h) (by rfl) (by assumption) ?_
          try simp only [Act.put, List.setIfInBounds_toArray, List.set_cons_zero, List.set_cons_succ]
          refine take_bar (i := 22) rfl (by kernel_rfl) (by kernel_rfl) (by kernel_rfl) (fun _ _ _ h => h) (by rfl) (by assumption) ?_
          try simp only [Act.put, List.setIfInBounds_toArray, List.set_cons_zero, List.set_cons_succ]
          refine take_run (i := 23) (v := ?vq23) rfl (by kernel_rfl) (by kernel_rfl) (by kernel_rfl) (fun _ _ _ h => h) (by rfl) ?yq23 (by assumption) ?rq23
          case yq23 => (intro w hSw; (try dsimp only at hSw); go_simp; try with_reducible rfl)
          try simp only [Act.put, List.setIfInBounds_toArray, List.set_cons_zero, List.set_cons_succ]
          refine take_run (i := 24) (v := ?vq24) rfl (by kernel_rfl) (by kernel_rfl) (by kernel_rfl) (fun _ _ _ h => h) (by rfl) ?yq24 (by assumption) ?rq24
          case yq24 => (intro w hSw; (try dsimp only at hSw); go_simp; try with_reducible rfl)
          try simp only [Act.put, List.setIfInBounds_toArray, List.set_cons_zero, List.set_cons_succ]
          refine wpAnyH_done (by kernel_rfl) ?_ _
          refine NoPanic.normal ?_
          all_goals
            go_wp2_with fail
            go_meet
            exact ⟨rfl, H11.out⟩
      case rest =>
        obtain ⟨rfl, hb10⟩ := hcut
        rename World => w10
        have K10 := Lib.hid (K9.out.pk.below hb10)
        clear hb10 K9 G9 HZV HBE
        have a0 : w10.cell? ⟨w.heap.size, 0, none⟩ = some (.int .i64 t.terms) := K10.out.tab.cell 0
        have a1 : w10.cell? ⟨w.heap.size, 1, none⟩ = some (.int .i64 t.atom) := K10.out.tab.cell 1
        have a2 : w10.cell? ⟨w.heap.size, 2, none⟩ = some (.int .i64 t.opn) := K10.out.tab.cell 2
        have a3 : w10.cell? ⟨w.heap.size, 3, none⟩ = some (.int .i64 t.cls) := K10.out.tab.cell 3
        have a4 : w10.cell? ⟨w.heap.size, 4, none⟩ = some (.slice A t.levels.length c) := K10.out.tab.cell 4
        have a5 : w10.cell? ⟨w.heap.size + 1 + 1, 0, none⟩ = some (.int .i64 y.rule) := K10.out.by_.cell 0
        have a6 : w10.cell? ⟨w.heap.size + 1 + 1, 1, none⟩ = some (.int .i64 y.term) := K10.out.by_.cell 1
        have a7 : w10.cell? ⟨w.heap.size + 1 + 1, 2, none⟩ = some (.slice D y.kids.length k) := K10.out.by_.cell 2
        have zt : w.heap.size < w10.heap.size := K10.out.tab.lt
        have zy : w.heap.size + 1 + 1 < w10.heap.size := K10.out.by_.lt
        go_upto_region 14 with (fail)
        refine wp_region_noPanic ?_
        refine wp_region_held_drew (S := (fun w' => w'.cell? ⟨w.heap.size, 0, none⟩ = some (.int .i64 t.terms) ∧ w'.cell? ⟨w.heap.size, 1, none⟩ = some (.int .i64 t.atom) ∧ w'.cell? ⟨w.heap.size, 2, none⟩ = some (.int .i64 t.opn) ∧ w'.cell? ⟨w.heap.size, 3, none⟩ = some (.int .i64 t.cls) ∧ w'.cell? ⟨w.heap.size, 4, none⟩ = some (.slice A t.levels.length c) ∧ w'.cell? ⟨w.heap.size + 1 + 1, 0, none⟩ = some (.int .i64 y.rule) ∧ w'.cell? ⟨w.heap.size + 1 + 1, 1, none⟩ = some (.int .i64 y.term) ∧ w'.cell? ⟨w.heap.size + 1 + 1, 2, none⟩ = some (.slice D y.kids.length k))) (by kernel_rfl) ?hr (fun hHeld => ?br)
        case hr => ((try dsimp only); go_keep)
        refine take_run (i := 0) (v := ?vr0) rfl (by kernel_rfl) (by kernel_rfl) (by kernel_rfl) (fun _ _ _ h => h) (by rfl) ?yr0 (by assumption) ?rr0
        case yr0 => (intro w hSw; (try dsimp only at hSw); go_simp; try with_reducible rfl)
        try simp only [Act.put, List.setIfInBounds_toArray, List.set_cons_zero, List.set_cons_succ]
        refine take_run (i := 2) (v := ?vr2) rfl (by kernel_rfl) (by kernel_rfl) (by kernel_rfl) (fun _ _ _ h => h) (by rfl) ?yr2 (by assumption) ?rr2
        case yr2 => (intro w hSw; (try dsimp only at hSw); go_simp; try with_reducible rfl)
        try simp only [Act.put, List.setIfInBounds_toArray, List.set_cons_zero, List.set_cons_succ]
        refine take_call (i := 1) rfl (by kernel_rfl) (by rfl) (fun K hK => ?_)
        go_simp
        go_at_call 18
        refine (refFlat_any t A c S _ H64.out hlc hc (K10.out.lev.below (Below.refl _ _).drew) (fun b hb => Nat.lt_of_lt_of_le (HS.out b hb) K10.out.bel.size) (by rw [flat_ref' V.out]; have := HFL.out; omega)).mono ?_
        rintro e w11 ⟨v11, rfl, hown, hb11⟩
        rw [flat_ref' V.out] at hown
        obtain ⟨A11, q11, rfl, _⟩ := hown.form
        have HF11 := Lib.hid hown.vl.els.2.2.2
        have H11 := Lib.hid (bundrew hb11)
        clear hown hb11
        have f0 := (H11.out.cell (p := ⟨w.heap.size, 0, none⟩) zt).trans a0
        have f1 := (H11.out.cell (p := ⟨w.heap.size, 1, none⟩) zt).trans a1
        have f2 := (H11.out.cell (p := ⟨w.heap.size, 2, none⟩) zt).trans a2
        have f3 := (H11.out.cell (p := ⟨w.heap.size, 3, none⟩) zt).trans a3
        have f4 := (H11.out.cell (p := ⟨w.heap.size, 4, none⟩) zt).trans a4
        have f5 := (H11.out.cell (p := ⟨w.heap.size + 1 + 1, 0, none⟩) zy).trans a5
        have f6 := (H11.out.cell (p := ⟨w.heap.size + 1 + 1, 1, none⟩) zy).trans a6
        have f7 := (H11.out.cell (p := ⟨w.heap.size + 1 + 1, 2, none⟩) zy).trans a7
        dsimp only
        refine hK.out _ _ ?hr1 (fun hHeld => ?rr1)
        case hr1 => ((try dsimp only); go_keep)
        clear hK K
        try simp only [Act.put, List.setIfInBounds_toArray, List.set_cons_zero, List.set_cons_succ]
        refine take_call (i := 3) rfl (by kernel_rfl) (by rfl) (fun K hK => ?_)
        go_simp
        go_at_call 16
        refine (treeErr_any ⟨t.terms, 1, 0, flatRules t⟩ A11 q11 _ S y D k _ HFL.out HFR.out HF11.out HY.out.1 HY.out.2 hyk hk (K10.out.ey.below H11.out)).mono ?_
        rintro e w12 ⟨rfl, hb12⟩
        rw [← HAE.out]
        have H12 := Lib.hid (bthen H11.out hb12 H11.out.size)
        clear hb12
        have g0 := (H12.out.cell (p := ⟨w.heap.size, 0, none⟩) zt).trans a0
        have g1 := (H12.out.cell (p := ⟨w.heap.size, 1, none⟩) zt).trans a1
        have g2 := (H12.out.cell (p := ⟨w.heap.size, 2, none⟩) zt).trans a2
        have g3 := (H12.out.cell (p := ⟨w.heap.size, 3, none⟩) zt).trans a3
        have g4 := (H12.out.cell (p := ⟨w.heap.size, 4, none⟩) zt).trans a4
        have g5 := (H12.out.cell (p := ⟨w.heap.size + 1 + 1, 0, none⟩) zy).trans a5
        have g6 := (H12.out.cell (p := ⟨w.heap.size + 1 + 1, 1, none⟩) zy).trans a6
        have g7 := (H12.out.cell (p := ⟨w.heap.size + 1 + 1, 2, none⟩) zy).trans a7
        dsimp only
        refine hK.out _ _ ?hr3 (fun hHeld => ?rr3)
        case hr3 => ((try dsimp only); go_keep)
        clear hK K
        try simp only [Act.put, List.setIfInBounds_toArray, List.set_cons_zero, List.set_cons_succ]
        refine take_run (i := 4) (v := ?vr4) rfl (by kernel_rfl) (by kernel_rfl) (by kernel_rfl) (fun _ _ _ h => h) (by rfl) ?yr4 (by assumption) ?rr4
        case yr4 => (intro w hSw; (try dsimp only at hSw); go_simp; try with_reducible rfl)
        try simp only [Act.put, List.setIfInBounds_toArray, List.set_cons_zero, List.set_cons_succ]
        refine wpAnyH_done (by kernel_rfl) ?_ _
        refine NoPanic.normal ?_
        have K12 := Lib.hid (K10.out.below H12.out)
        have HFN := Lib.hid (bthen K10.out.bel H12.out K10.out.bel.size)
        clear a0 a1 a2 a3 a4 a5 a6 a7 f0 f1 f2 f3 f4 f5 f6 f7
        by_cases hae : ae = 0
        · have hAv : av = allowE t y := by rw [HAA.out, if_pos hae]
          have hvt : vt ⟨t.terms, 1, 0, flatRules t⟩ y (rootS ⟨t.terms, 1, 0, flatRules t⟩ y) := vt_of_visit _ y 0 (HAE.out.symm.trans hae)
          subst hae
          by_cases hyr : y.rule < 0
          · have hav : av = true := by
              rw [hAv]; obtain ⟨r, tm, ks⟩ := y; unfold allowE; rw [if_pos (show r < 0 from hyr)]
            subst hav
            clear hAv hvt HAA HAE
            go_wp2
            go_ret
            exact ⟨by first | rfl | exact ret_bool (by simp), HFN.out⟩
          · have hlaw : allowR t y = av := by
              rw [hAv]
              refine allow_law V.out rfl y _ hvt ?_
              obtain ⟨r, tm, ks⟩ := y
              simp only [rootS]
              rw [if_neg (show ¬ r < 0 from hyr)]
              unfold vt at hvt
              simp only [rootS, if_neg (show ¬ r < 0 from hyr)] at hvt ⊢
              split
              · rfl
              · rename_i hnone
                rw [hnone] at hvt
                simp at hvt
                exact absurd hvt.1 (fun e => hyr (by show r < 0; omega))
            have HLaw := Lib.hid hlaw
            clear hAv hvt HAA HAE hlaw
            go_wp2_with fail
            refine (rallow_any S S t c (by have := V.out.levels; omega) y A D k _ hyk hk K12.out.ey K12.out.lev).mono ?_
            rintro e w13 ⟨rfl, hb13⟩
            rw [HLaw.out]
            have HF13 := Lib.hid (bthen HFN.out hb13 HFN.out.size)
            clear hb13
            go_wp2
            go_ret
            exact ⟨by first | rfl | exact ret_bool (by simp), HF13.out⟩
        · have hAv : av = false := by rw [HAA.out, if_neg hae]
          have hq3 : (ae == 0) = false := by simpa using hae
          subst hAv
          clear hae HAA HAE
          go_wp2
          go_ret
          exact ⟨by first | rfl | exact ret_bool (by simp), HFN.out⟩
    · have hq : (precCheck t != 0) = true := by simpa using h0
      have hz : z = ⟨0, 0, []⟩ := by rw [← HZ.out.1, backV, if_neg h0]; rfl
      have hbe : be = precCheck t := by rw [← HZ.out.2, backE, if_neg h0]
      have hav : av = false := by rw [← HAV.out.1, allowV, if_neg h0]
      have hae : ae = precCheck t := by rw [← HAV.out.2, allowEr, if_neg h0]
      subst hz; subst hav
      clear HZ HAV h0
      obtain ⟨pe, hpe⟩ : ∃ pe, precCheck t = pe := ⟨_, rfl⟩
      rw [hpe] at hbe hae hq ⊢
      subst hbe; subst hae
      clear hpe
      have z0 : w6.cell? ⟨zb, 0, none⟩ = some (.int .i64 0) := K6.out.bz.cell 0
      have z1 : w6.cell? ⟨zb, 1, none⟩ = some (.int .i64 0) := K6.out.bz.cell 1
      have z2 : w6.cell? ⟨zb, 2, none⟩ = some (.slice ZA 0 zc) := K6.out.bz.cell 2
      go_wp2_with fail
      refine (same_zero ZA zc Sz _ hzm).mono ?_
      rintro e w7 ⟨rfl, hb7⟩
      have K7 := Lib.hid (K6.out.below hb7)
      clear hb7 z0 z1 z2
      go_wp2
      go_ret
      exact ⟨rfl, K7.out.pk.bel⟩

theorem blkAll_ints : ∀ (l : List Int), blkAll l = l.length
  | [] => rfl
  | x :: l => by rw [blkAll, blkAll_ints l, List.length_cons]; show 1 + _ = _; omega
theorem blkAll_levels : ∀ (l : List Level), ((l.map Level.ops).flatten).length ≤ blkAll l
  | [] => Nat.le_refl _
  | x :: l => by
    have h1 := blkAll_levels l
    have h2 : Blk.blk x = 2 + (blkAll x.ops + 1) := rfl
    rw [blkAll_ints] at h2
    simp only [List.map_cons, List.flatten_cons, List.length_append, blkAll]
    omega
theorem precTrees_row (t : Table) (x y : Tree) (v0 v1 v2 : Value) (W : World) (h0 : Vl W (OldS W) t v0) (h1 : Vl W (OldS W) x v1) (h2 : Vl W (OldS W) y v2) (hk : Blk.blk t + (Blk.blk x + Blk.blk y) ≤ 1048576) :
    Calls Try.prog 3 #[v0, v1, v2] W fun e W' => e = .returned (.bool true) ∧ Below W.heap.size W W' := by
  obtain ⟨s, rfl, i1, i2, i3, i4, hs⟩ := h0.table
  obtain ⟨A, c, rfl, hc1, hc2, hA⟩ := hs.slice
  obtain ⟨sx, rfl, x1, x2, hx⟩ := h1.tree
  obtain ⟨B, d, rfl, hd1, hd2, hB⟩ := hx.slice
  obtain ⟨sy, rfl, y1, y2, hy⟩ := h2.tree
  obtain ⟨D, k, rfl, hk1, hk2, hD⟩ := hy.slice
  refine precTrees_any t x y A B D c d k (OldS W) W ⟨i1, i2, i3, i4⟩ hc1 hc2 hA (fun b h => h) ?_ ⟨x1, x2⟩ ⟨hd1, hd2⟩ hB ⟨y1, y2⟩ ⟨hk1, hk2⟩ hD
  have e1 : Blk.blk t = 5 + (blkAll t.levels + 1) := rfl
  have e2 := blkAll_levels t.levels
  have h5 : (allOps t).length ≤ 2 + ((t.levels.map Level.ops).flatten).length := by
    simp only [allOps, List.length_append]
    split <;> simp only [List.length_cons, List.length_nil] <;> omega
  omega
end Go.Proofs.Ytlbhaegdcpacpaa
