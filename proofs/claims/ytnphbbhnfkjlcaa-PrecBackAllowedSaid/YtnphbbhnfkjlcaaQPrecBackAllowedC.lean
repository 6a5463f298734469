/- The law PrecBackAllowed: it returns true at every input. -/
import Derived.Test.YtnphbbhnfkjlcaaQClimbs
import Derived.Test.YtnphbbhnfkjlcaaQPrecBackP
import Derived.Test.YtnphbbhnfkjlcaaQBackPub
import Derived.Test.YtnphbbhnfkjlcaaQAllowPub
import Derived.Test.YtnphbbhnfkjlcaaQPrecPub
import Derived.Test.YtnphbbhnfkjlcaaQMakeTreeTop
import Derived.Test.YtnphbbhnfkjlcaaQYield
import Derived.Test.YtnphbbhnfkjlcaaQEqInt
import Derived.Test.YtnphbbhnfkjlcaaQp1
namespace Go.Proofs.Ytnphbbhnfkjlcaa
open Go.RowKit
set_option linter.unusedVariables false

theorem back_all {t : Table} (h0 : precCheck t = 0) {x : Tree} (hx : vt (layG t) x ⟨false, (layG t).start⟩) (hl : (yieldT x).length ≤ 60) : backE t x = 0 ∧ allowEr t (backV t x) = 0 ∧ allowV t (backV t x) = true ∧ yieldT (backV t x) = yieldT x := by
  have hv := valid_of h0
  have eG : layG t = ⟨t.terms, (t.levels.length : Int) + 1, 0, layRules (brk t) t⟩ := by unfold layG; rw [if_pos h0]
  have eF : flatG t = ⟨t.terms, 1, 0, flatRules t⟩ := by unfold flatG; rw [if_pos h0]
  have eL : layL t = layTo (brk t) t := by unfold layL; rw [if_pos h0]
  have hx0 : vt (layG t) x ⟨false, 0⟩ := by rw [eG] at hx ⊢; exact hx
  have ok := back_law hv (g := layG t) (f := flatG t) (by rw [eG]) (by rw [eF]) x 0 hx0
  have hn := ok.small
  have hf := ok.few
  have e1 : treeE (layG t) x = 0 := treeE_of (by rw [eG]; exact lay_terms hv) hx0 (by omega)
  have eV : backV t x = backT (layTo (brk t) t) x := by unfold backV; rw [if_pos h0, if_pos e1, eL]
  have e2 : treeE (flatG t) (backV t x) = 0 := by rw [eV]; exact treeE_of (by rw [eF]; exact flat_terms hv) ok.isT (by omega)
  refine ⟨by unfold backE; rw [if_pos h0, e1], by unfold allowEr; rw [if_pos h0, e2], ?_, by rw [eV]; exact ok.same⟩
  unfold allowV
  rw [if_pos h0, if_pos e2, eV]
  exact ok.allow
theorem ops_len {t : Table} (hv : Valid t) : (allOps t).length ≤ 2000000 := (hv.small true).2.2

set_option maxRecDepth 100000 in
set_option maxHeartbeats 2000000 in
theorem precBackAllowed_any (l ch : List Int) (A B : Option Addr) (c d : Nat) (S S' : Nat → Prop) (w : World) (hlc : l.length ≤ c) (hc : c ≤ 9223372036854775807) (hA : Els w S l A) (hS : ∀ b, S b → b < w.heap.size) (hld : ch.length ≤ d) (hd : d ≤ 9223372036854775807) (hB : Els w S' ch B) (hS' : ∀ b, S' b → b < w.heap.size) :
    Calls Try.prog 8 #[.slice A l.length c, .slice B ch.length d] w fun e w' => e = .returned (.bool true) ∧ Below w.heap.size w w' := by
  have HB := Lib.hid hB
  have HS' := Lib.hid hS'
  have HOp := Lib.hid (operators_any l A c S w hlc hc hA hS)
  clear hA hS hB hS'
  go_enter Try.func8, Try.ntmps8
  go_wp2_with fail
  refine HOp.out.mono ?_
  rintro e w1 ⟨t, v, k, rfl, hO, _, hv, hb1⟩
  have h0 := hO.valid (by omega)
  obtain ⟨A1, c1, rfl, hl1, hl2, hE1⟩ := hv.slice
  have H64 := Lib.hid (show I64 t.terms ∧ I64 t.atom ∧ I64 t.opn ∧ I64 t.cls by
    have h1 := hO.terms
    have h2 := hO.atom
    have h3 := hO.br
    unfold I64
    omega)
  have hT8 : t.terms = 8 := hO.terms
  have hT0 : t.atom = 0 := hO.atom
  have HC := Lib.hid h0
  have V := Lib.hid (valid_of h0)
  obtain ⟨w2, hw2⟩ : ∃ w2 : World, w2 = w1.alloc (.cells #[.int .i64 8, .int .i64 0, .int .i64 t.opn, .int .i64 t.cls, .slice A1 t.levels.length c1] 37) := ⟨_, rfl⟩
  have HW2 := Lib.hid hw2
  have hb2 : Below w1.heap.size w1 w2 := by rw [hw2]; exact (Below.refl _ _).alloc (Nat.le_refl _) _
  have HT2 : Hid (Blk' w2 w1.heap.size 37 #[.int .i64 t.terms, .int .i64 t.atom, .int .i64 t.opn, .int .i64 t.cls, .slice A1 t.levels.length c1]) := Lib.hid (by rw [hw2, hT8, hT0]; exact Blk'.new w1 _ _)
  have HE2 := Lib.hid (hE1.below hb2)
  have HB2 := Lib.hid (bthen hb1 hb2 hb1.size)
  have hz12 : w1.heap.size < w2.heap.size := HT2.out.lt
  have HLay := Lib.hid (Layered_any t A1 c1 _ w2 H64.out hl1 hl2 HE2.out (fun b hb => by have := hb.2; omega) (ops_len V.out))
  rw [hT8, hT0] at HLay
  clear hO hv h0 hE1 hb1 hb2 hw2
  go_wp2_with fail
  rw [← HW2.out]
  refine HLay.out.mono ?_
  rintro e w3 ⟨s3, v3, rfl, hs3, hv3, hb3⟩
  rw [HC.out]
  obtain ⟨A3, c3, rfl, h31, h32, hE3⟩ := hs3.slice
  obtain ⟨w4, hw4⟩ : ∃ w4 : World, w4 = w3.alloc (.cells #[.int .i64 (layG t).terms, .int .i64 (layG t).nons, .int .i64 (layG t).start, .slice A3 (layG t).rules.length c3] 49) := ⟨_, rfl⟩
  have HW4 := Lib.hid hw4
  have hb4 : Below w3.heap.size w3 w4 := by rw [hw4]; exact (Below.refl _ _).alloc (Nat.le_refl _) _
  have HG4 : Hid (Blk' w4 w3.heap.size 49 #[.int .i64 (layG t).terms, .int .i64 (layG t).nons, .int .i64 (layG t).start, .slice A3 (layG t).rules.length c3]) := Lib.hid (by rw [hw4]; exact Blk'.new w3 _ _)
  have hb24 := bthen hb3 hb4 hb3.size
  have HT4 := Lib.hid (HT2.out.below hb24 HT2.out.lt)
  have HE4 := Lib.hid (And.intro (HE2.out.below hb24) (hE3.below hb4))
  have HB4 := Lib.hid (bthen HB2.out hb24 HB2.out.size)
  have hz23 : w2.heap.size ≤ w3.heap.size := hb3.size
  clear hs3 hv3 hE3 hb3 hb4 hb24 hw4
  go_wp2_with fail
  rw [← HW4.out]
  refine (climbs_any w4).mono ?_
  rintro e w5 ⟨rfl, hb5⟩
  have hT5 := HT4.out.below hb5 HT4.out.lt
  have hG5 := HG4.out.below hb5 HG4.out.lt
  have HT5 := Lib.hid hT5
  have HE5 := Lib.hid (And.intro (HE4.out.1.below hb5) (HE4.out.2.below hb5))
  have HB5 := Lib.hid (bthen HB4.out hb5 HB4.out.size)
  have hz45 : w4.heap.size ≤ w5.heap.size := hb5.size
  have hz34 : w3.heap.size < w4.heap.size := HG4.out.lt
  have eG : layG t = ⟨t.terms, (t.levels.length : Int) + 1, 0, layRules (brk t) t⟩ := by unfold layG; rw [if_pos HC.out]
  have HMk := Lib.hid (makeTree_any (layG t) A3 c3 ch B d _ S' w5 (by have h := H64.out; have hl := V.out.levels; rw [eG]; exact ⟨h.1, ⟨by dsimp only; omega, by dsimp only; omega⟩, i64_0⟩) h31 h32
    (by rw [eG]; have h1 := V.out.ops; have h2 := V.out.levels; simp only [layRules, layTailR, List.length_append, layFrom_len]; split <;> simp only [List.length_cons, List.length_nil] <;> omega) (by rw [eG]; exact rules_len) HE5.out.2 (fun b hb => by have := hb.2; omega) hld hd (HB.out.belowB HB5.out HS'.out) (fun b hb => by have h1 := HS'.out b hb; have h2 := HB5.out.size; omega))
  have g0 : w5.cell? ⟨w3.heap.size, 0, none⟩ = some (.int .i64 (layG t).terms) := hG5.cell 0
  have g1 : w5.cell? ⟨w3.heap.size, 1, none⟩ = some (.int .i64 (layG t).nons) := hG5.cell 1
  have g2 : w5.cell? ⟨w3.heap.size, 2, none⟩ = some (.int .i64 (layG t).start) := hG5.cell 2
  have g3 : w5.cell? ⟨w3.heap.size, 3, none⟩ = some (.slice A3 (layG t).rules.length c3) := hG5.cell 3
  have zG5 : w3.heap.size < w5.heap.size := hG5.lt
  clear hb5 hT5 hG5 eG
  go_wp2_with fail
  refine HMk.out.mono ?_
  rintro e w6 ⟨v6, ok, rfl, hb6, ⟨a6, b6, A6, n6, c6, rfl⟩, htree⟩
  have HTr := Lib.hid htree
  have HT6 := Lib.hid (HT5.out.below hb6 HT5.out.lt)
  have HE6 := Lib.hid (HE5.out.1.below hb6)
  have HB6 := Lib.hid (bthen HB5.out hb6 HB5.out.size)
  clear htree g0 g1 g2 g3
  cases ok
  · have HB6' := Lib.hid (HB6.out.alloc HB6.out.size (.cells #[.int .i64 a6, .int .i64 b6, .slice A6 n6 c6] 41))
    clear hb6
    go_wp2
    go_ret
    exact ⟨rfl, HB6'.out⟩
  · obtain ⟨x, hvt, hvx, hyl⟩ := HTr.out rfl
    obtain ⟨sx, esx, hxr, hxt, hsx⟩ := hvx.tree
    obtain ⟨Ax, cx, rfl, hx1, hx2, hEx⟩ := hsx.slice
    simp only [Value.agg.injEq, List.toArray_inj, Array.mk.injEq, List.cons.injEq, Value.int.injEq, Value.slice.injEq] at esx
    obtain ⟨⟨_, rfl⟩, ⟨_, rfl⟩, ⟨rfl, rfl, rfl⟩, _⟩ := esx
    obtain ⟨p1, p2, p3, p4⟩ := back_all HC.out hvt hyl
    have HP := Lib.hid (And.intro p1 (And.intro p2 (And.intro p3 p4)))
    have HYl := Lib.hid hyl
    have hz56 : w5.heap.size ≤ w6.heap.size := hb6.size
    obtain ⟨w7, hw7⟩ : ∃ w7 : World, w7 = w6.alloc (.cells #[.int .i64 x.rule, .int .i64 x.term, .slice A6 x.kids.length c6] 41) := ⟨_, rfl⟩
    have HW7 := Lib.hid hw7
    have hb7 : Below w6.heap.size w6 w7 := by rw [hw7]; exact (Below.refl _ _).alloc (Nat.le_refl _) _
    have HX7 : Hid (Blk' w7 w6.heap.size 41 #[.int .i64 x.rule, .int .i64 x.term, .slice A6 x.kids.length c6]) := Lib.hid (by rw [hw7]; exact Blk'.new w6 _ _)
    have HT7 := Lib.hid (HT6.out.below hb7 HT6.out.lt)
    have HE7 := Lib.hid (And.intro (HE6.out.below hb7) (hEx.below hb7))
    have HB7 := Lib.hid (bthen HB6.out hb7 HB6.out.size)
    have hz67 : w6.heap.size < w7.heap.size := HX7.out.lt
    have HBk := Lib.hid (back_any t x A1 A6 c1 c6 _ _ w7 H64.out hl1 hl2 HE7.out.1 (fun b hb => by have := hb.2; omega) (ops_len V.out) hxr hxt hx1 hx2 HE7.out.2 (fun b hb => by have := hb.2; omega))
    have t0 : w7.cell? ⟨w1.heap.size, 0, none⟩ = some (.int .i64 t.terms) := HT7.out.cell 0
    have t1 : w7.cell? ⟨w1.heap.size, 1, none⟩ = some (.int .i64 t.atom) := HT7.out.cell 1
    have t2 : w7.cell? ⟨w1.heap.size, 2, none⟩ = some (.int .i64 t.opn) := HT7.out.cell 2
    have t3 : w7.cell? ⟨w1.heap.size, 3, none⟩ = some (.int .i64 t.cls) := HT7.out.cell 3
    have t4 : w7.cell? ⟨w1.heap.size, 4, none⟩ = some (.slice A1 t.levels.length c1) := HT7.out.cell 4
    have x0 : w7.cell? ⟨w6.heap.size, 0, none⟩ = some (.int .i64 x.rule) := HX7.out.cell 0
    have x1 : w7.cell? ⟨w6.heap.size, 1, none⟩ = some (.int .i64 x.term) := HX7.out.cell 1
    have x2 : w7.cell? ⟨w6.heap.size, 2, none⟩ = some (.slice A6 x.kids.length c6) := HX7.out.cell 2
    clear hvt hvx hsx hb6 hb7 hw7 p1 p2 p3 p4 hyl hEx hT8 hT0
    go_upto_region 8 with (fail)
    rw [← HW7.out]
    go_wp2_with fail
    refine HBk.out.mono ?_
    rintro e w8 ⟨s8, rfl, hs8, hyr, hyt, hb8⟩
    rw [HP.out.1]
    obtain ⟨A8, c8, rfl, h81, h82, hE8⟩ := hs8.slice
    obtain ⟨w9, hw9⟩ : ∃ w9 : World, w9 = w8.alloc (.cells #[.int .i64 (backV t x).rule, .int .i64 (backV t x).term, .slice A8 (backV t x).kids.length c8] 41) := ⟨_, rfl⟩
    have HW9 := Lib.hid hw9
    have hb9 : Below w8.heap.size w8 w9 := by rw [hw9]; exact (Below.refl _ _).alloc (Nat.le_refl _) _
    have HY9 : Hid (Blk' w9 w8.heap.size 41 #[.int .i64 (backV t x).rule, .int .i64 (backV t x).term, .slice A8 (backV t x).kids.length c8]) := Lib.hid (by rw [hw9]; exact Blk'.new w8 _ _)
    have hb79 := bthen hb8 hb9 hb8.size
    have HT9 := Lib.hid (HT7.out.below hb79 HT7.out.lt)
    have HX9 := Lib.hid (HX7.out.below hb79 HX7.out.lt)
    have HE9 := Lib.hid (And.intro (HE7.out.1.below hb79) (And.intro (HE7.out.2.below hb79) (hE8.below hb9)))
    have HB9 := Lib.hid (bthen HB7.out hb79 HB7.out.size)
    have hz78 : w7.heap.size ≤ w8.heap.size := hb8.size
    have hz89 : w8.heap.size < w9.heap.size := HY9.out.lt
    have HAl := Lib.hid (allowed_any t (backV t x) A1 A8 c1 c8 _ _ w9 H64.out hl1 hl2 HE9.out.1 (fun b hb => by have := hb.2; omega) (ops_len V.out) hyr hyt h81 h82 HE9.out.2.2 (fun b hb => by have := hb.2; omega))
    have HYr := Lib.hid (And.intro hyr hyt)
    clear t0 t1 t2 t3 t4 x0 x1 x2 hs8 hE8 hb8 hb9 hb79 hw9 hyr hyt
    have t0 : w9.cell? ⟨w1.heap.size, 0, none⟩ = some (.int .i64 t.terms) := HT9.out.cell 0
    have t1 : w9.cell? ⟨w1.heap.size, 1, none⟩ = some (.int .i64 t.atom) := HT9.out.cell 1
    have t2 : w9.cell? ⟨w1.heap.size, 2, none⟩ = some (.int .i64 t.opn) := HT9.out.cell 2
    have t3 : w9.cell? ⟨w1.heap.size, 3, none⟩ = some (.int .i64 t.cls) := HT9.out.cell 3
    have t4 : w9.cell? ⟨w1.heap.size, 4, none⟩ = some (.slice A1 t.levels.length c1) := HT9.out.cell 4
    have y0 : w9.cell? ⟨w8.heap.size, 0, none⟩ = some (.int .i64 (backV t x).rule) := HY9.out.cell 0
    have y1 : w9.cell? ⟨w8.heap.size, 1, none⟩ = some (.int .i64 (backV t x).term) := HY9.out.cell 1
    have y2 : w9.cell? ⟨w8.heap.size, 2, none⟩ = some (.slice A8 (backV t x).kids.length c8) := HY9.out.cell 2
    go_upto_region 9 with (fail)
    rw [← HW9.out]
    go_wp2_with fail
    refine HAl.out.mono ?_
    rintro e wa ⟨rfl, hba⟩
    rw [HP.out.2.1, HP.out.2.2.1]
    have HXa := Lib.hid (HX9.out.below hba HX9.out.lt)
    have HYa := Lib.hid (HY9.out.below hba HY9.out.lt)
    have HEa := Lib.hid (And.intro (HE9.out.2.1.below hba) (HE9.out.2.2.below hba))
    have HBa := Lib.hid (bthen HB9.out hba HB9.out.size)
    have hz9a : w9.heap.size ≤ wa.heap.size := hba.size
    clear t0 t1 t2 t3 t4 y0 y1 y2 hba
    have x0 : wa.cell? ⟨w6.heap.size, 0, none⟩ = some (.int .i64 x.rule) := HXa.out.cell 0
    have x1 : wa.cell? ⟨w6.heap.size, 1, none⟩ = some (.int .i64 x.term) := HXa.out.cell 1
    have x2 : wa.cell? ⟨w6.heap.size, 2, none⟩ = some (.slice A6 x.kids.length c6) := HXa.out.cell 2
    have y0 : wa.cell? ⟨w8.heap.size, 0, none⟩ = some (.int .i64 (backV t x).rule) := HYa.out.cell 0
    have y1 : wa.cell? ⟨w8.heap.size, 1, none⟩ = some (.int .i64 (backV t x).term) := HYa.out.cell 1
    have y2 : wa.cell? ⟨w8.heap.size, 2, none⟩ = some (.slice A8 (backV t x).kids.length c8) := HYa.out.cell 2
    have zXa : w6.heap.size < wa.heap.size := HXa.out.lt
    have zYa : w8.heap.size < wa.heap.size := HYa.out.lt
    go_upto_region 10 with (fail)
    refine wp_region_noPanic ?_
    refine wp_region_held_drew (S := (fun w' => w'.cell? ⟨w6.heap.size, 0, none⟩ = some (.int .i64 x.rule) ∧ w'.cell? ⟨w6.heap.size, 1, none⟩ = some (.int .i64 x.term) ∧ w'.cell? ⟨w6.heap.size, 2, none⟩ = some (.slice A6 x.kids.length c6) ∧ w'.cell? ⟨w8.heap.size, 0, none⟩ = some (.int .i64 (backV t x).rule) ∧ w'.cell? ⟨w8.heap.size, 1, none⟩ = some (.int .i64 (backV t x).term) ∧ w'.cell? ⟨w8.heap.size, 2, none⟩ = some (.slice A8 (backV t x).kids.length c8))) (by kernel_rfl) ?ha (fun hHeld => ?ba)
    case ha => ((try dsimp only); go_keep)
    refine take_run (i := 0) (v := ?va0) rfl (by kernel_rfl) (by kernel_rfl) (by kernel_rfl) (fun _ _ _ h => h) (by rfl) ?ya0 (by assumption) ?ra0
    case ya0 => (intro w hSw; (try dsimp only at hSw); go_simp; try with_reducible rfl)
    try simp only [Act.put, List.setIfInBounds_toArray, List.set_cons_zero, List.set_cons_succ]
    refine take_run (i := 1) (v := .bool true) rfl (by kernel_rfl) (by kernel_rfl) (by kernel_rfl) (fun _ _ _ h => h) (by rfl) ?ya1 (by assumption) ?ra1
    case ya1 => (intro w hSw; (try dsimp only at hSw); try go_simp; first | done | omega | (simp []; done) | trace_state)
    try simp only [Act.put, List.setIfInBounds_toArray, List.set_cons_zero, List.set_cons_succ]
    refine take_run (i := 2) (v := ?va2) rfl (by kernel_rfl) (by kernel_rfl) (by kernel_rfl) (fun _ _ _ h => h) (by rfl) ?ya2 (by assumption) ?ra2
    case ya2 => (intro w hSw; (try dsimp only at hSw); go_simp; try with_reducible rfl)
    try simp only [Act.put, List.setIfInBounds_toArray, List.set_cons_zero, List.set_cons_succ]
    refine take_run (i := 3) (v := ?va3) rfl (by kernel_rfl) (by kernel_rfl) (by kernel_rfl) (fun _ _ _ h => h) (by rfl) ?ya3 (by assumption) ?ra3
    case ya3 => (intro w hSw; (try dsimp only at hSw); go_simp; try with_reducible rfl)
    try simp only [Act.put, List.setIfInBounds_toArray, List.set_cons_zero, List.set_cons_succ]
    refine take_run (i := 4) (v := .bool true) rfl (by kernel_rfl) (by kernel_rfl) (by kernel_rfl) (fun _ _ _ h => h) (by rfl) ?ya4 (by assumption) ?ra4
    case ya4 => (intro w hSw; (try dsimp only at hSw); try go_simp; first | done | omega | (simp []; done) | trace_state)
    try simp only [Act.put, List.setIfInBounds_toArray, List.set_cons_zero, List.set_cons_succ]
    refine take_run (i := 5) (v := ?va5) rfl (by kernel_rfl) (by kernel_rfl) (by kernel_rfl) (fun _ _ _ h => h) (by rfl) ?ya5 (by assumption) ?ra5
    case ya5 => (intro w hSw; (try dsimp only at hSw); go_simp; try with_reducible rfl)
    try simp only [Act.put, List.setIfInBounds_toArray, List.set_cons_zero, List.set_cons_succ]
    refine take_run (i := 6) (v := ?va6) rfl (by kernel_rfl) (by kernel_rfl) (by kernel_rfl) (fun _ _ _ h => h) (by rfl) ?ya6 (by assumption) ?ra6
    case ya6 => (intro w hSw; (try dsimp only at hSw); go_simp; try with_reducible rfl)
    try simp only [Act.put, List.setIfInBounds_toArray, List.set_cons_zero, List.set_cons_succ]
    refine take_run (i := 7) (v := ?va7) rfl (by kernel_rfl) (by kernel_rfl) (by kernel_rfl) (fun _ _ _ h => h) (by rfl) ?ya7 (by assumption) ?ra7
    case ya7 => (intro w hSw; (try dsimp only at hSw); go_simp; try with_reducible rfl)
    try simp only [Act.put, List.setIfInBounds_toArray, List.set_cons_zero, List.set_cons_succ]
    refine take_run (i := 8) (v := ?va8) rfl (by kernel_rfl) (by kernel_rfl) (by kernel_rfl) (fun _ _ _ h => h) (by rfl) ?ya8 (by assumption) ?ra8
    case ya8 => (intro w hSw; (try dsimp only at hSw); go_simp; try with_reducible rfl)
    try simp only [Act.put, List.setIfInBounds_toArray, List.set_cons_zero, List.set_cons_succ]
    refine take_run (i := 9) (v := ?va9) rfl (by kernel_rfl) (by kernel_rfl) (by kernel_rfl) (fun _ _ _ h => h) (by rfl) ?ya9 (by assumption) ?ra9
    case ya9 => (intro w hSw; (try dsimp only at hSw); go_simp; try with_reducible rfl)
    try simp only [Act.put, List.setIfInBounds_toArray, List.set_cons_zero, List.set_cons_succ]
    refine take_run (i := 10) (v := ?va10) rfl (by kernel_rfl) (by kernel_rfl) (by kernel_rfl) (fun _ _ _ h => h) (by rfl) ?ya10 (by assumption) ?ra10
    case ya10 => (intro w hSw; (try dsimp only at hSw); go_simp; try with_reducible rfl)
    try simp only [Act.put, List.setIfInBounds_toArray, List.set_cons_zero, List.set_cons_succ]
    refine take_run (i := 12) (v := ?va12) rfl (by kernel_rfl) (by kernel_rfl) (by kernel_rfl) (fun _ _ _ h => h) (by rfl) ?ya12 (by assumption) ?ra12
    case ya12 => (intro w hSw; (try dsimp only at hSw); go_simp; try with_reducible rfl)
    try simp only [Act.put, List.setIfInBounds_toArray, List.set_cons_zero, List.set_cons_succ]
    refine take_call (i := 11) rfl (by kernel_rfl) (by rfl) (fun Kq hK => ?_)
    go_simp
    go_at_call 30
    refine (yield_any x A6 c6 _ wa.drew (fun b hb => by have := hb.2; show b < wa.heap.size; omega) hxr hxt hx1 hx2 (HEa.out.1.below (below_drew _)) (by have := HYl.out; omega)).mono ?_
    rintro e wb ⟨vb, rfl, hOb, hbb⟩
    obtain ⟨Ab, cb, rfl, hb1, hb2, _⟩ := hOb.form
    have HBb := Lib.hid (bundrew hbb)
    have HOb := Lib.hid hOb.vl.els.2.2.2
    have n0 := (HBb.out.cell (p := ⟨w6.heap.size, 0, none⟩) zXa).trans x0
    have n1 := (HBb.out.cell (p := ⟨w6.heap.size, 1, none⟩) zXa).trans x1
    have n2 := (HBb.out.cell (p := ⟨w6.heap.size, 2, none⟩) zXa).trans x2
    have n3 := (HBb.out.cell (p := ⟨w8.heap.size, 0, none⟩) zYa).trans y0
    have n4 := (HBb.out.cell (p := ⟨w8.heap.size, 1, none⟩) zYa).trans y1
    have n5 := (HBb.out.cell (p := ⟨w8.heap.size, 2, none⟩) zYa).trans y2
    have zXb : w6.heap.size < wb.heap.size := by have := HBb.out.size; omega
    have zYb : w8.heap.size < wb.heap.size := by have := HBb.out.size; omega
    have hzab : wa.heap.size ≤ wb.heap.size := HBb.out.size
    clear hOb hbb
    refine hK.out _ _ ?ha11 (fun hHeld => ?ra11)
    case ha11 => ((try dsimp only); go_keep)
    clear hK Kq
    try simp only [Act.put, List.setIfInBounds_toArray, List.set_cons_zero, List.set_cons_succ]
    refine take_call (i := 13) rfl (by kernel_rfl) (by rfl) (fun Kq hK => ?_)
    go_simp
    go_at_call 30
    refine (yield_any (backV t x) A8 c8 _ wb (fun b hb => by have := hb.2; omega) HYr.out.1 HYr.out.2 h81 h82 (HEa.out.2.below HBb.out) (by rw [HP.out.2.2.2]; have := HYl.out; omega)).mono ?_
    rintro e wc ⟨vc, rfl, hOc, hbc⟩
    rw [HP.out.2.2.2] at hOc
    obtain ⟨Ac, cc, rfl, hc1, hc2, _⟩ := hOc.form
    have HBc := Lib.hid hbc
    have HOc := Lib.hid hOc.vl.els.2.2.2
    have m0 := (HBc.out.cell (p := ⟨w6.heap.size, 0, none⟩) zXb).trans n0
    have m1 := (HBc.out.cell (p := ⟨w6.heap.size, 1, none⟩) zXb).trans n1
    have m2 := (HBc.out.cell (p := ⟨w6.heap.size, 2, none⟩) zXb).trans n2
    have m3 := (HBc.out.cell (p := ⟨w8.heap.size, 0, none⟩) zYb).trans n3
    have m4 := (HBc.out.cell (p := ⟨w8.heap.size, 1, none⟩) zYb).trans n4
    have m5 := (HBc.out.cell (p := ⟨w8.heap.size, 2, none⟩) zYb).trans n5
    clear hOc hbc
    refine hK.out _ _ ?ha13 (fun hHeld => ?ra13)
    case ha13 => ((try dsimp only); go_keep)
    clear hK Kq
    try simp only [Act.put, List.setIfInBounds_toArray, List.set_cons_zero, List.set_cons_succ]
    refine take_call (i := 14) rfl (by kernel_rfl) (by rfl) (fun Kq hK => ?_)
    go_simp
    go_at_call 38
    refine (equalInt_any Ab Ac (yieldT x) (yieldT x) _ _ cb cc _ _ wc rfl rfl (by omega) (by omega) (HOb.out.below HBc.out) HOc.out).mono ?_
    rintro e wd ⟨rfl, hbd⟩
    have HBd := Lib.hid hbd
    have r0 := (HBd.out.cell (p := ⟨w6.heap.size, 0, none⟩) (by have := HBc.out.size; show w6.heap.size < wc.heap.size; omega)).trans m0
    have r1 := (HBd.out.cell (p := ⟨w6.heap.size, 1, none⟩) (by have := HBc.out.size; show w6.heap.size < wc.heap.size; omega)).trans m1
    have r2 := (HBd.out.cell (p := ⟨w6.heap.size, 2, none⟩) (by have := HBc.out.size; show w6.heap.size < wc.heap.size; omega)).trans m2
    have r3 := (HBd.out.cell (p := ⟨w8.heap.size, 0, none⟩) (by have := HBc.out.size; show w8.heap.size < wc.heap.size; omega)).trans m3
    have r4 := (HBd.out.cell (p := ⟨w8.heap.size, 1, none⟩) (by have := HBc.out.size; show w8.heap.size < wc.heap.size; omega)).trans m4
    have r5 := (HBd.out.cell (p := ⟨w8.heap.size, 2, none⟩) (by have := HBc.out.size; show w8.heap.size < wc.heap.size; omega)).trans m5
    rw [show decide (yieldT x = yieldT x) = true from decide_eq_true rfl]
    clear hbd
    refine hK.out _ _ ?ha14 (fun hHeld => ?ra14)
    case ha14 => ((try dsimp only); go_keep)
    clear hK Kq
    try simp only [Act.put, List.setIfInBounds_toArray, List.set_cons_zero, List.set_cons_succ]
    refine take_run (i := 15) (v := ?va15) rfl (by kernel_rfl) (by kernel_rfl) (by kernel_rfl) (fun _ _ _ h => h) (by rfl) ?ya15 (by assumption) ?ra15
    case ya15 => (intro w hSw; (try dsimp only at hSw); go_simp; try with_reducible rfl)
    try simp only [Act.put, List.setIfInBounds_toArray, List.set_cons_zero, List.set_cons_succ]
    refine take_run (i := 16) (v := ?va16) rfl (by kernel_rfl) (by kernel_rfl) (by kernel_rfl) (fun _ _ _ h => h) (by rfl) ?ya16 (by assumption) ?ra16
    case ya16 => (intro w hSw; (try dsimp only at hSw); go_simp; try with_reducible rfl)
    try simp only [Act.put, List.setIfInBounds_toArray, List.set_cons_zero, List.set_cons_succ]
    refine wpAnyH_done (by kernel_rfl) ?_ _
    refine NoPanic.normal ?_
    go_wp2_with fail
    go_ret
    exact ⟨rfl, bthen (bthen (bthen HBa.out HBb.out HBa.out.size) HBc.out (by have := HBa.out.size; have := HBb.out.size; omega)) HBd.out (by have := HBa.out.size; have := HBb.out.size; have := HBc.out.size; omega)⟩

theorem precBackAllowed_row (l ch : List Int) (v0 v1 : Value) (W : World) (h0 : Vl W (OldS W) l v0) (h1 : Vl W (OldS W) ch v1) :
    Calls Try.prog 8 #[v0, v1] W fun e W' => e = .returned (.bool true) ∧ Below W.heap.size W W' := by
  obtain ⟨A, c, rfl, k1, k2, hA⟩ := h0.slice
  obtain ⟨B, d, rfl, k3, k4, hB⟩ := h1.slice
  exact precBackAllowed_any l ch A B c d (OldS W) (OldS W) W k1 k2 hA (fun b h => h) k3 k4 hB (fun b h => h)
end Go.Proofs.Ytnphbbhnfkjlcaa
