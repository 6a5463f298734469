/- The walk of the law GramTrees. -/
import Derived.Test.YtlbhaegdcpacpaaDoorTreeOpen
import Derived.Test.YtlbhaegdcpacpaaDoorSimple
import Derived.Test.YtlbhaegdcpacpaaDoorGramErr
import Derived.Test.YtlbhaegdcpacpaaDoorGTree
import Derived.Test.YtlbhaegdcpacpaaDoorRTree
import Derived.Test.YtlbhaegdcpacpaaDoorLeaves
import Derived.Test.YtlbhaegdcpacpaaDoorEqInt
import Derived.Deep.RegionWith
import Derived.Deep.DeepCutAuto
import Derived.Deep.RegionHeld3
namespace Go.Proofs.YtlbhaegdcpacpaaDoor
open Go.RowKit
set_option linter.unusedVariables false

def leafT : Tree := ⟨-1, 0, []⟩
def smallT : Tree := ⟨0, 0, [⟨1, 0, []⟩, leafT]⟩
def noT : Tree := ⟨0, 0, []⟩
theorem smallE : treeE simpleG smallT = 0 := by decide +kernel
theorem simpleR : ∀ q ∈ simpleG.rules, q.right.length ≤ 1000 := by decide
theorem noE : treeE simpleG noT = 3 := by decide +kernel

theorem kid_els (W : World) : Els (W.alloc (.cells #[.int .i64 1, .int .i64 0, .slice none 0 0, .int .i64 (-1), .int .i64 0, .slice none 0 0] 27)) (fun b => b = W.heap.size) smallT.kids (some ⟨W.heap.size, 0, none⟩) := by
  have i0 : I64 0 := ⟨by omega, by omega⟩
  have i1 : I64 1 := ⟨by omega, by omega⟩
  have i2 : I64 (-1) := ⟨by omega, by omega⟩
  exact els_of_blk [[.int .i64 1, .int .i64 0, .slice none 0 0], [.int .i64 (-1), .int .i64 0, .slice none 0 0]] (Blk'.new W _ _) rfl rfl (rd_two (rd_tree.2 ⟨_, rfl, i1, i0, Vl.nil⟩) (rd_tree.2 ⟨_, rfl, i2, i0, Vl.nil⟩)) rfl

theorem eq_trueT (A A' : Option Addr) (xs : List Int) (n n' c c' : Nat) (S S' : Nat → Prop) (w : World) (hn : n = xs.length) (hn' : n' = xs.length) (hm : xs.length ≤ 9223372036854775807) (hA : Els w S xs A) (hA' : Els w S' xs A') :
    Calls Tryd.prog 14 #[.slice A n c, .slice A' n' c'] w fun e w' => e = .returned (.bool true) ∧ Below w.heap.size w w' :=
  (equalInt_any A A' xs xs n n' c c' S S' w hn hn' hm hm hA hA').mono fun e w' ⟨h1, h2⟩ => ⟨by rw [h1]; simp, h2⟩

set_option maxRecDepth 100000 in
set_option maxHeartbeats 4000000 in
theorem gramTrees_any (g : Gram) (t : Tree) (A : Option Addr) (c : Nat) (B : Option Addr) (d : Nat) (S : Nat → Prop) (w : World) (h64 : I64 g.terms ∧ I64 g.nons ∧ I64 g.start) (hlc : g.rules.length ≤ c) (hc : c ≤ 9223372036854775807) (hA : Els w S g.rules A) (hS : ∀ b, S b → b < w.heap.size) (hr : I64 t.rule) (ht : I64 t.term) (hld : t.kids.length ≤ d) (hd : d ≤ 9223372036854775807) (hB : Els w S t.kids B) (hn : nodesT t ≤ 1000000) :
    Calls Tryd.prog 3 #[.agg #[.int .i64 g.terms, .int .i64 g.nons, .int .i64 g.start, .slice A g.rules.length c], .agg #[.int .i64 t.rule, .int .i64 t.term, .slice B t.kids.length d]] w
      fun e w' => e = .returned (.bool true) ∧ Below w.heap.size w w' := by
  obtain ⟨gt, gn, gs, rs⟩ := g
  dsimp only at *
  obtain ⟨w1, hw1⟩ : ∃ w1 : World, w1 = ((w.alloc (.cells #[.int .i64 gt, .int .i64 gn, .int .i64 gs, .slice A rs.length c] 24)).alloc (.cells #[.int .i64 t.rule, .int .i64 t.term, .slice B t.kids.length d] 27)).alloc (.cells #[.int .i64 (-1), .int .i64 0, .slice none 0 0] 27) := ⟨_, rfl⟩
  have hb1 : Below w.heap.size w w1 := by rw [hw1]; exact (((Below.refl _ _).alloc (Nat.le_refl _) _).alloc (by simp) _).alloc (by simp; omega) _
  have hG1 : Blk' w1 w.heap.size 24 #[.int .i64 gt, .int .i64 gn, .int .i64 gs, .slice A rs.length c] := by rw [hw1]; exact ((Blk'.new w _ _).alloc _).alloc _
  have hT1 : Blk' w1 (w.heap.size + 1) 27 #[.int .i64 t.rule, .int .i64 t.term, .slice B t.kids.length d] := by rw [hw1]; exact (Blk'.new' _ _ _ (by simp)).alloc _
  have hL1 : Blk' w1 (w.heap.size + 1 + 1) 27 #[.int .i64 (-1), .int .i64 0, .slice none 0 0] := by rw [hw1]; exact Blk'.new' _ _ _ (by simp)
  have HW1 := Lib.hid hw1
  have HB1 := Lib.hid hb1
  have HG1 := Lib.hid hG1
  have HT1 := Lib.hid hT1
  have HA := Lib.hid hA
  have HB := Lib.hid hB
  have HS := Lib.hid hS
  have H64 := Lib.hid h64
  have HR := Lib.hid (And.intro hr ht)
  have HN := Lib.hid hn
  have l0 : w1.cell? ⟨w.heap.size + 1 + 1, 0, none⟩ = some (.int .i64 (-1)) := hL1.cell 0
  have l1 : w1.cell? ⟨w.heap.size + 1 + 1, 1, none⟩ = some (.int .i64 0) := hL1.cell 1
  have l2 : w1.cell? ⟨w.heap.size + 1 + 1, 2, none⟩ = some (.slice none 0 0) := hL1.cell 2
  have zl : w.heap.size + 1 + 1 < w1.heap.size := hL1.lt
  have i0 : I64 0 := ⟨by omega, by omega⟩
  have HI0 := Lib.hid i0
  clear hw1 hb1 hG1 hT1 hL1 hA hB hS h64 hr ht hn i0
  go_enter Tryd.func3, Tryd.ntmps3
  go_wp2_with fail
  rw [← HW1.out]
  go_cut [6] (fun v wx => v = .int .i64 0 ∧ Below w1.heap.size w1 wx)
  case first =>
    go_region_held3 (fun w' => w'.cell? ⟨w.heap.size + 1 + 1, 0, none⟩ = some (.int .i64 (-1)) ∧ w'.cell? ⟨w.heap.size + 1 + 1, 1, none⟩ = some (.int .i64 0) ∧ w'.cell? ⟨w.heap.size + 1 + 1, 2, none⟩ = some (.slice none 0 0)) (go_keep)
      (first
      | (go_at_call 9
         refine (simple_any _).mono ?_
         rintro e w4 ⟨As, rfl, hEs, hbs⟩
         have HEs := Lib.hid hEs
         first
         | (have H4 : Hid (Below w1.heap.size w1 w4) := Lib.hid (((Below.refl _ _).drew).trans hbs)
            have m0 := (H4.out.cell (p := ⟨w.heap.size + 1 + 1, 0, none⟩) zl).trans l0
            have m1 := (H4.out.cell (p := ⟨w.heap.size + 1 + 1, 1, none⟩) zl).trans l1
            have m2 := (H4.out.cell (p := ⟨w.heap.size + 1 + 1, 2, none⟩) zl).trans l2
            have hz4 := H4.out.size
            have tokA : True := trivial
            clear hEs hbs)
         | (have hW : Below w1.heap.size w1 (w1.drew.alloc (.cells #[.int .i64 1, .int .i64 0, .slice none 0 0, .int .i64 (-1), .int .i64 0, .slice none 0 0] 27)) := ((Below.refl w1.heap.size w1).drew).alloc (Nat.le_refl _) _
            have H4 : Hid (Below w1.heap.size w1 w4) := Lib.hid (hW.trans (hbs.mono (by simp)))
            have HKd : Hid (Els w4 (fun b => b < w4.heap.size) smallT.kids (some ⟨w1.heap.size, 0, none⟩)) := Lib.hid (((kid_els w1.drew).below hbs).keep (fun _ _ _ => rfl) (fun b hb => by have := hbs.size; simp at hb this; omega))
            clear hW
            have m0 := (H4.out.cell (p := ⟨w.heap.size + 1 + 1, 0, none⟩) zl).trans l0
            have m1 := (H4.out.cell (p := ⟨w.heap.size + 1 + 1, 1, none⟩) zl).trans l1
            have m2 := (H4.out.cell (p := ⟨w.heap.size + 1 + 1, 2, none⟩) zl).trans l2
            have hz4 := H4.out.size
            clear hEs hbs))
      | (go_at_call 8
         first
         | (have _t := tokA
            clear _t
            refine (gtree_any simpleG As 2 _ _ smallT (some ⟨w4.heap.size, 0, none⟩) 2 _ (by decide) simpleR (HEs.out.below ((Below.refl _ _).alloc (Nat.le_refl _) _)) (fun b hb => by have := hb.2; simp; omega) (fun b hb => by simp at hb ⊢; omega) HI0.out HI0.out (by decide) (by decide) (kid_els w4)).mono ?_
            rintro e w5 ⟨rfl, hb5⟩
            rw [smallE]
            have H5 := Lib.hid (bthen (H4.out.alloc H4.out.size (.cells #[.int .i64 1, .int .i64 0, .slice none 0 0, .int .i64 (-1), .int .i64 0, .slice none 0 0] 27)) hb5 (by have := H4.out.size; simp; omega))
            have n0 := (H5.out.cell (p := ⟨w.heap.size + 1 + 1, 0, none⟩) zl).trans l0
            have n1 := (H5.out.cell (p := ⟨w.heap.size + 1 + 1, 1, none⟩) zl).trans l1
            have n2 := (H5.out.cell (p := ⟨w.heap.size + 1 + 1, 2, none⟩) zl).trans l2
            clear hb5)
         | (refine (gtree_any simpleG As 2 _ _ smallT (some ⟨w1.heap.size, 0, none⟩) 2 _ (by decide) simpleR HEs.out (fun b hb => hb.2) (fun b hb => hb) HI0.out HI0.out (by decide) (by decide) HKd.out).mono ?_
            rintro e w5 ⟨rfl, hb5⟩
            rw [smallE]
            have H5 := Lib.hid (bthen H4.out hb5 H4.out.size)
            have n0 := (H5.out.cell (p := ⟨w.heap.size + 1 + 1, 0, none⟩) zl).trans l0
            have n1 := (H5.out.cell (p := ⟨w.heap.size + 1 + 1, 1, none⟩) zl).trans l1
            have n2 := (H5.out.cell (p := ⟨w.heap.size + 1 + 1, 2, none⟩) zl).trans l2
            clear hb5)))
    all_goals
      go_wp2_with fail
      go_meet
      exact ⟨rfl, H5.out⟩
  case rest =>
    obtain ⟨rfl, hb2⟩ := hcut
    rename World => w2
    have HB2 := Lib.hid (bthen HB1.out hb2 HB1.out.size)
    have HG2 := Lib.hid (HG1.out.below hb2 HG1.out.lt)
    have HT2 := Lib.hid (HT1.out.below hb2 HT1.out.lt)
    clear hb2 l0 l1 l2 zl
    go_wp2_with fail
    refine (simple_any _).mono ?_
    rintro e w4 ⟨As, rfl, hEs, hbs⟩
    have HEs := Lib.hid hEs
    have HB4 := Lib.hid (bthen HB2.out hbs HB2.out.size)
    have HG4 := Lib.hid (HG2.out.below hbs HG2.out.lt)
    have HT4 := Lib.hid (HT2.out.below hbs HT2.out.lt)
    clear hEs hbs
    go_wp2_with fail
    refine (gtree_any simpleG As 2 _ (fun _ => False) noT none 0 _ (by decide) simpleR HEs.out (fun b hb => hb.2) (fun b hb => hb.elim) HI0.out HI0.out (by decide) (by decide) (fun h => absurd rfl h)).mono ?_
    rintro e w5 ⟨rfl, hb5⟩
    rw [noE]
    have HB5 := Lib.hid (bthen HB4.out hb5 HB4.out.size)
    have hG5 := HG4.out.below hb5 HG4.out.lt
    have hT5 := HT4.out.below hb5 HT4.out.lt
    have HG5 := Lib.hid hG5
    have HT5 := Lib.hid hT5
    have g0 : w5.cell? ⟨w.heap.size, 0, none⟩ = some (.int .i64 gt) := hG5.cell 0
    have g1 : w5.cell? ⟨w.heap.size, 1, none⟩ = some (.int .i64 gn) := hG5.cell 1
    have g2 : w5.cell? ⟨w.heap.size, 2, none⟩ = some (.int .i64 gs) := hG5.cell 2
    have g3 : w5.cell? ⟨w.heap.size, 3, none⟩ = some (.slice A rs.length c) := hG5.cell 3
    clear hb5 hG5 hT5
    go_wp2_with fail
    refine (gramErr_any ⟨gt, gn, gs, rs⟩ A c S _ H64.out hlc hc (HA.out.below HB5.out) (fun b hb => by have := HS.out b hb; have := HB5.out.size; omega)).mono ?_
    rintro e w6 ⟨rfl, hb6⟩
    have HB6 := Lib.hid (bthen HB5.out hb6 HB5.out.size)
    have hG6 := HG5.out.below hb6 HG5.out.lt
    have hT6 := HT5.out.below hb6 HT5.out.lt
    have G0 : w6.cell? ⟨w.heap.size, 0, none⟩ = some (.int .i64 gt) := hG6.cell 0
    have G1 : w6.cell? ⟨w.heap.size, 1, none⟩ = some (.int .i64 gn) := hG6.cell 1
    have G2 : w6.cell? ⟨w.heap.size, 2, none⟩ = some (.int .i64 gs) := hG6.cell 2
    have G3 : w6.cell? ⟨w.heap.size, 3, none⟩ = some (.slice A rs.length c) := hG6.cell 3
    have T0 : w6.cell? ⟨w.heap.size + 1, 0, none⟩ = some (.int .i64 t.rule) := hT6.cell 0
    have T1 : w6.cell? ⟨w.heap.size + 1, 1, none⟩ = some (.int .i64 t.term) := hT6.cell 1
    have T2 : w6.cell? ⟨w.heap.size + 1, 2, none⟩ = some (.slice B t.kids.length d) := hT6.cell 2
    have zG : w.heap.size < w6.heap.size := hG6.lt
    have zT : w.heap.size + 1 < w6.heap.size := hT6.lt
    clear hb6 hG6 hT6 g0 g1 g2 g3
    by_cases hce : checkI ⟨gt, gn, gs, rs⟩ = 0
    · have hv := validG_of hce
      have HV := Lib.hid hv
      rw [hce]
      have hrl : rs.length ≤ 1000 := by have := hv.len; dsimp only at this; omega
      have HRR : Hid (∀ q ∈ rs, q.right.length ≤ 1000) := Lib.hid (fun q hq => by have := (hv.rules q hq).2.2.1; omega)
      have HRL : Hid (rs.length ≤ 9223372036854775807) := Lib.hid (by omega)
      have HYN : Hid ((yieldT t).length ≤ 1000000) := Lib.hid (by have := yield_nodes t; have := HN.out; omega)
      have HYM : Hid ((yieldT t).length ≤ 9223372036854775807) := Lib.hid (by have := HYN.out; omega)
      have HNL : Hid (nodesT t ≤ 1100000) := Lib.hid (by have := HN.out; omega)
      obtain ⟨y, hy⟩ : ∃ y, rootS ⟨gt, gn, gs, rs⟩ t = y := ⟨_, rfl⟩
      obtain ⟨yt, yn⟩ := y
      have HY := Lib.hid hy
      clear hce hv hy
      go_wp2_with fail
      -- REGION
      go_region_held3 (fun w' => w'.cell? ⟨w.heap.size, 0, none⟩ = some (.int .i64 gt) ∧ w'.cell? ⟨w.heap.size, 1, none⟩ = some (.int .i64 gn) ∧ w'.cell? ⟨w.heap.size, 2, none⟩ = some (.int .i64 gs) ∧ w'.cell? ⟨w.heap.size, 3, none⟩ = some (.slice A rs.length c) ∧ w'.cell? ⟨w.heap.size + 1, 0, none⟩ = some (.int .i64 t.rule) ∧ w'.cell? ⟨w.heap.size + 1, 1, none⟩ = some (.int .i64 t.term) ∧ w'.cell? ⟨w.heap.size + 1, 2, none⟩ = some (.slice B t.kids.length d)) (go_keep)
        (first
        | (go_at_call 8
           refine (gtree_any ⟨gt, gn, gs, rs⟩ A c S S t B d _ hrl HRR.out (HA.out.below (bthen HB6.out ((Below.refl _ _).drew) HB6.out.size)) (fun b hb => by have := HS.out b hb; have := HB6.out.size; simp; omega) (fun b hb => by have := HS.out b hb; have := HB6.out.size; simp; omega) HR.out.1 HR.out.2 hld hd (HB.out.below (bthen HB6.out ((Below.refl _ _).drew) HB6.out.size))).mono ?_
           rintro e w7 ⟨rfl, hb⟩
           have R7 := Lib.hid (((Below.refl w6.heap.size w6).drew).trans hb)
           have G0_7 := (R7.out.cell (p := ⟨w.heap.size, 0, none⟩) zG).trans G0
           have G1_7 := (R7.out.cell (p := ⟨w.heap.size, 1, none⟩) zG).trans G1
           have G2_7 := (R7.out.cell (p := ⟨w.heap.size, 2, none⟩) zG).trans G2
           have G3_7 := (R7.out.cell (p := ⟨w.heap.size, 3, none⟩) zG).trans G3
           have T0_7 := (R7.out.cell (p := ⟨w.heap.size + 1, 0, none⟩) zT).trans T0
           have T1_7 := (R7.out.cell (p := ⟨w.heap.size + 1, 1, none⟩) zT).trans T1
           have T2_7 := (R7.out.cell (p := ⟨w.heap.size + 1, 2, none⟩) zT).trans T2
           clear hb)
        | (go_at_call 11
           refine (treeErr_any ⟨gt, gn, gs, rs⟩ A c S S t B d _ hrl HRR.out (HA.out.below (bthen HB6.out R7.out HB6.out.size)) HR.out.1 HR.out.2 hld hd (HB.out.below (bthen HB6.out R7.out HB6.out.size))).mono ?_
           rintro e w8 ⟨rfl, hb⟩
           have R8 := Lib.hid (bthen R7.out hb R7.out.size)
           have G0_8 := (R8.out.cell (p := ⟨w.heap.size, 0, none⟩) zG).trans G0
           have G1_8 := (R8.out.cell (p := ⟨w.heap.size, 1, none⟩) zG).trans G1
           have G2_8 := (R8.out.cell (p := ⟨w.heap.size, 2, none⟩) zG).trans G2
           have G3_8 := (R8.out.cell (p := ⟨w.heap.size, 3, none⟩) zG).trans G3
           have T0_8 := (R8.out.cell (p := ⟨w.heap.size + 1, 0, none⟩) zT).trans T0
           have T1_8 := (R8.out.cell (p := ⟨w.heap.size + 1, 1, none⟩) zT).trans T1
           have T2_8 := (R8.out.cell (p := ⟨w.heap.size + 1, 2, none⟩) zT).trans T2
           clear hb)
        | (go_at_call 12
           refine (root_y ⟨gt, gn, gs, rs⟩ A c S t B _ d _ HRL.out (HA.out.below (bthen HB6.out R8.out HB6.out.size)) yt yn HY.out).mono ?_
           rintro e w9 ⟨rfl, hb⟩
           have R9 := Lib.hid (bthen R8.out hb R8.out.size)
           have G0_9 := (R9.out.cell (p := ⟨w.heap.size, 0, none⟩) zG).trans G0
           have G1_9 := (R9.out.cell (p := ⟨w.heap.size, 1, none⟩) zG).trans G1
           have G2_9 := (R9.out.cell (p := ⟨w.heap.size, 2, none⟩) zG).trans G2
           have G3_9 := (R9.out.cell (p := ⟨w.heap.size, 3, none⟩) zG).trans G3
           have T0_9 := (R9.out.cell (p := ⟨w.heap.size + 1, 0, none⟩) zT).trans T0
           have T1_9 := (R9.out.cell (p := ⟨w.heap.size + 1, 1, none⟩) zT).trans T1
           have T2_9 := (R9.out.cell (p := ⟨w.heap.size + 1, 2, none⟩) zT).trans T2
           clear hb)
        | (go_at_call 13
           refine (top_y ⟨gt, gn, gs, rs⟩ A c S t B _ d _ HRL.out (HA.out.below (bthen HB6.out R9.out HB6.out.size)) yt yn HY.out).mono ?_
           rintro e w10 ⟨rfl, hb⟩
           have R10 := Lib.hid (bthen R9.out hb R9.out.size)
           have G0_10 := (R10.out.cell (p := ⟨w.heap.size, 0, none⟩) zG).trans G0
           have G1_10 := (R10.out.cell (p := ⟨w.heap.size, 1, none⟩) zG).trans G1
           have G2_10 := (R10.out.cell (p := ⟨w.heap.size, 2, none⟩) zG).trans G2
           have G3_10 := (R10.out.cell (p := ⟨w.heap.size, 3, none⟩) zG).trans G3
           have T0_10 := (R10.out.cell (p := ⟨w.heap.size + 1, 0, none⟩) zT).trans T0
           have T1_10 := (R10.out.cell (p := ⟨w.heap.size + 1, 1, none⟩) zT).trans T1
           have T2_10 := (R10.out.cell (p := ⟨w.heap.size + 1, 2, none⟩) zT).trans T2
           clear hb)
        | (go_at_call 15
           refine (yield_any t B d S _ (fun b hb => by have := HS.out b hb; have := HB6.out.size; have := R10.out.size; omega) HR.out.1 HR.out.2 hld hd (HB.out.below (bthen HB6.out R10.out HB6.out.size)) HYN.out).mono ?_
           rintro e w11 ⟨v, rfl, hown, hb⟩
           obtain ⟨VA, va, rfl, _, _, _⟩ := hown.form
           have HV11 := Lib.hid (hown.vl.els).2.2.2
           clear hown
           have R11 := Lib.hid (bthen R10.out hb R10.out.size)
           have G0_11 := (R11.out.cell (p := ⟨w.heap.size, 0, none⟩) zG).trans G0
           have G1_11 := (R11.out.cell (p := ⟨w.heap.size, 1, none⟩) zG).trans G1
           have G2_11 := (R11.out.cell (p := ⟨w.heap.size, 2, none⟩) zG).trans G2
           have G3_11 := (R11.out.cell (p := ⟨w.heap.size, 3, none⟩) zG).trans G3
           have T0_11 := (R11.out.cell (p := ⟨w.heap.size + 1, 0, none⟩) zT).trans T0
           have T1_11 := (R11.out.cell (p := ⟨w.heap.size + 1, 1, none⟩) zT).trans T1
           have T2_11 := (R11.out.cell (p := ⟨w.heap.size + 1, 2, none⟩) zT).trans T2
           clear hb)
        | (go_at_call 16
           refine (leaves_any t B d S _ (fun b hb => by have := HS.out b hb; have := HB6.out.size; have := R11.out.size; omega) HR.out.1 HR.out.2 hld hd (HB.out.below (bthen HB6.out R11.out HB6.out.size)) HNL.out).mono ?_
           rintro e w12 ⟨v, rfl, hown, hb⟩
           have HV11b := Lib.hid (HV11.out.below hb)
           obtain ⟨LA, la, rfl, _, _, _⟩ := hown.form
           have HV12 := Lib.hid (hown.vl.els).2.2.2
           clear hown
           have R12 := Lib.hid (bthen R11.out hb R11.out.size)
           have G0_12 := (R12.out.cell (p := ⟨w.heap.size, 0, none⟩) zG).trans G0
           have G1_12 := (R12.out.cell (p := ⟨w.heap.size, 1, none⟩) zG).trans G1
           have G2_12 := (R12.out.cell (p := ⟨w.heap.size, 2, none⟩) zG).trans G2
           have G3_12 := (R12.out.cell (p := ⟨w.heap.size, 3, none⟩) zG).trans G3
           have T0_12 := (R12.out.cell (p := ⟨w.heap.size + 1, 0, none⟩) zT).trans T0
           have T1_12 := (R12.out.cell (p := ⟨w.heap.size + 1, 1, none⟩) zT).trans T1
           have T2_12 := (R12.out.cell (p := ⟨w.heap.size + 1, 2, none⟩) zT).trans T2
           clear hb)
        | (go_at_call 14
           refine (eq_trueT VA LA (yieldT t) _ _ va la _ _ _ rfl rfl HYM.out HV11b.out HV12.out).mono ?_
           rintro e w13 ⟨rfl, hb⟩
           have R13 := Lib.hid (bthen R12.out hb R12.out.size)
           have G0_13 := (R13.out.cell (p := ⟨w.heap.size, 0, none⟩) zG).trans G0
           have G1_13 := (R13.out.cell (p := ⟨w.heap.size, 1, none⟩) zG).trans G1
           have G2_13 := (R13.out.cell (p := ⟨w.heap.size, 2, none⟩) zG).trans G2
           have G3_13 := (R13.out.cell (p := ⟨w.heap.size, 3, none⟩) zG).trans G3
           have T0_13 := (R13.out.cell (p := ⟨w.heap.size + 1, 0, none⟩) zT).trans T0
           have T1_13 := (R13.out.cell (p := ⟨w.heap.size + 1, 1, none⟩) zT).trans T1
           have T2_13 := (R13.out.cell (p := ⟨w.heap.size + 1, 2, none⟩) zT).trans T2
           clear hb))
      all_goals
        go_wp2_with fail
        go_ret
        exact ⟨rfl, bthen HB6.out R13.out HB6.out.size⟩
    · have hce' : (checkI ⟨gt, gn, gs, rs⟩ != 0) = true := by simpa using hce
      generalize checkI ⟨gt, gn, gs, rs⟩ = ce at *
      clear hce
      go_wp2
      go_ret
      exact ⟨rfl, HB6.out⟩
theorem gramTrees_row (g : Gram) (t : Tree) (v0 v1 : Value) (W : World) (h0 : Vl W (OldS W) g v0) (h1 : Vl W (OldS W) t v1) (hk : Blk.blk g + Blk.blk t ≤ 1048576) :
    Calls Tryd.prog 3 #[v0, v1] W fun e W' => e = .returned (.bool true) ∧ Below W.heap.size W W' := by
  obtain ⟨s, rfl, i0, i1, i2, hs⟩ := h0.gram
  obtain ⟨s', rfl, j0, j1, hs'⟩ := h1.tree
  obtain ⟨A, c, rfl, hl, hc, hA⟩ := hs.slice
  obtain ⟨B, d, rfl, hld, hd, hB⟩ := hs'.slice
  have hn := nodes_blk t
  have hb : Blk.blk t = blkTree t := rfl
  exact gramTrees_any g t A c B d (OldS W) W ⟨i0, i1, i2⟩ hl hc hA (fun b hb => hb) j0 j1 hld hd hB (by omega)
end Go.Proofs.YtlbhaegdcpacpaaDoor
