/- The law PrecAllowedOnly: it returns true at every input. -/
import Derived.Test.YtnphbbhnfkjlcaaQClimbs
import Derived.Test.YtnphbbhnfkjlcaaQPrecAllowP
import Derived.Test.YtnphbbhnfkjlcaaQAllowPub
import Derived.Test.YtnphbbhnfkjlcaaQPrecPub
import Derived.Test.YtnphbbhnfkjlcaaQMakeTreeTop
import Derived.Test.YtnphbbhnfkjlcaaQYield
import Derived.Test.YtnphbbhnfkjlcaaQSameTreeK
import Derived.Test.YtnphbbhnfkjlcaaQp1
namespace Go.Proofs.Ytnphbbhnfkjlcaa
open Go.RowKit
set_option linter.unusedVariables false

theorem retC_form {n : Nat} {r : Res} {w : World} {e : Ending} {w' : World} (h : RetC n r w e w') : ∃ (a b : Int) (A : Option Addr) (m c : Nat) (at_ er : Int), e = .returned (.tuple #[.agg #[.int .i64 a, .int .i64 b, .slice A m c], .int .i64 at_, .int .i64 er]) ∧ Below w.heap.size w w' := by
  cases r with
  | ok x q =>
    by_cases hq : q < n
    · have h1 : RejC q w e w' := by have h2 := h; simp only [RetC] at h2; rw [if_pos hq] at h2; exact h2
      exact ⟨_, _, _, _, _, _, _, h1.1, h1.2⟩
    · simp only [RetC] at h
      rw [if_neg hq] at h
      obtain ⟨A, c, h1, _, _, _, _, _, h2⟩ := h
      exact ⟨_, _, _, _, _, _, _, h1, h2⟩
  | rej q => exact ⟨_, _, _, _, _, _, _, h.1, h.2⟩
theorem retC_ok {n : Nat} {x : Tree} {w : World} {e : Ending} {w' : World} (h : RetC n (.ok x n) w e w') : ∃ (A : Option Addr) (c : Nat), e = .returned (.tuple #[.agg #[.int .i64 x.rule, .int .i64 x.term, .slice A x.kids.length c], .int .i64 0, .int .i64 0]) ∧ I64 x.rule ∧ I64 x.term ∧ x.kids.length ≤ c ∧ c ≤ 9223372036854775807 ∧ Els w' (fun b => w.heap.size ≤ b ∧ b < w'.heap.size) x.kids A ∧ Below w.heap.size w w' := by
  simp only [RetC] at h
  rw [if_neg (Nat.lt_irrefl n)] at h
  exact h
theorem allow_all {t : Table} (h0 : precCheck t = 0) {x : Tree} (hx : vt (flatG t) x ⟨false, (flatG t).start⟩) (hl : (yieldT x).length ≤ 60) : allowEr t x = 0 ∧ allowV t x = allowE t x ∧ wordE t.terms (yieldT x) 500 = 0 ∧ (allowE t x = true → ParE t (yieldT x) 0 0 (.ok x (yieldT x).length)) := by
  have hv := valid_of h0
  have eF : flatG t = ⟨t.terms, 1, 0, flatRules t⟩ := by unfold flatG; rw [if_pos h0]
  have hx0 : vt (flatG t) x ⟨false, 0⟩ := by rw [eF] at hx ⊢; exact hx
  have hf : (flatG t).rules = flatRules t := by rw [eF]
  have hn := flat_small hv hf x hx0
  have hs : ∀ q ∈ (flatG t).rules, ∀ s ∈ q.right, s.term = true → 0 ≤ s.n ∧ s.n < (flatG t).terms := by rw [eF]; exact flat_terms hv
  have e1 : treeE (flatG t) x = 0 := treeE_of hs hx0 (by omega)
  refine ⟨by unfold allowEr; rw [if_pos h0, e1], by unfold allowV; rw [if_pos h0, if_pos e1], ?_, fun ha => allow_climb hv hf hx0 ha⟩
  have hr := yield_range hs x ⟨false, 0⟩ hx0 (fun h => by simp at h)
  unfold wordE
  rw [if_neg (by omega), if_neg]
  intro h
  obtain ⟨a, ha, hb⟩ := List.any_eq_true.1 h
  have := hr a ha
  rw [eF] at this
  dsimp only at this
  simp [wordBad] at hb
  omega
theorem frules_len' {t : Table} : ∀ q ∈ flatRules t, q.right.length ≤ 1000 := by
  intro q hq
  obtain ⟨i, hi⟩ := List.mem_iff_getElem?.1 hq
  obtain ⟨v, _, h⟩ := flat_row t i q hi
  rcases h with ⟨_, h | ⟨_, h⟩⟩ | ⟨k, l, op, _, _, _, rfl⟩
  · rw [h]; simp
  · rw [h]; simp
  · unfold opRule; dsimp only; split <;> simp

set_option maxRecDepth 100000 in
set_option maxHeartbeats 4000000 in
theorem precAllowedOnly_any (l ch : List Int) (A B : Option Addr) (c d : Nat) (S S' : Nat → Prop) (w : World) (hlc : l.length ≤ c) (hc : c ≤ 9223372036854775807) (hA : Els w S l A) (hS : ∀ b, S b → b < w.heap.size) (hld : ch.length ≤ d) (hd : d ≤ 9223372036854775807) (hB : Els w S' ch B) (hS' : ∀ b, S' b → b < w.heap.size) :
    Calls Try.prog 6 #[.slice A l.length c, .slice B ch.length d] w fun e w' => e = .returned (.bool true) ∧ Below w.heap.size w w' := by
  have HB := Lib.hid hB
  have HS' := Lib.hid hS'
  have HOp := Lib.hid (operators_any l A c S w hlc hc hA hS)
  clear hA hS hB hS'
  go_enter Try.func6, Try.ntmps6
  go_wp2_with fail
  refine HOp.out.mono ?_
  rintro e w1 ⟨t, v, k, rfl, hO, _, hv, hb1⟩
  have h0 := hO.valid (by omega)
  obtain ⟨A1, c1, rfl, hl1, hl2, hE1⟩ := hv.slice
  have H64 := Lib.hid (show I64 t.terms ∧ I64 t.atom ∧ I64 t.opn ∧ I64 t.cls by
    have h1 := hO.terms
    have h2 := hO.atom
    have h3 := hO.br
    unfold I64
    omega)
  have hT8 : t.terms = 8 := hO.terms
  have hT0 : t.atom = 0 := hO.atom
  have HC := Lib.hid h0
  have V := Lib.hid (valid_of h0)
  have hopl : (allOps t).length ≤ 2000000 := (V.out.small true).2.2
  have HOl := Lib.hid hopl
  obtain ⟨w2, hw2⟩ : ∃ w2 : World, w2 = w1.alloc (.cells #[.int .i64 8, .int .i64 0, .int .i64 t.opn, .int .i64 t.cls, .slice A1 t.levels.length c1] 37) := ⟨_, rfl⟩
  have HW2 := Lib.hid hw2
  have hb2 : Below w1.heap.size w1 w2 := by rw [hw2]; exact (Below.refl _ _).alloc (Nat.le_refl _) _
  have HT2 : Hid (Blk' w2 w1.heap.size 37 #[.int .i64 t.terms, .int .i64 t.atom, .int .i64 t.opn, .int .i64 t.cls, .slice A1 t.levels.length c1]) := Lib.hid (by rw [hw2, hT8, hT0]; exact Blk'.new w1 _ _)
  have HE2 := Lib.hid (hE1.below hb2)
  have HB2 := Lib.hid (bthen hb1 hb2 hb1.size)
  have hz12 : w1.heap.size < w2.heap.size := HT2.out.lt
  have HFl := Lib.hid (Flat_any t A1 c1 _ w2 H64.out hl1 hl2 HE2.out (fun b hb => by have := hb.2; omega) hopl)
  rw [hT8, hT0] at HFl
  clear hO hv h0 hE1 hb1 hb2 hw2 hopl
  go_wp2_with fail
  rw [← HW2.out]
  refine HFl.out.mono ?_
  rintro e w3 ⟨s3, rfl, hs3, hb3⟩
  rw [HC.out]
  obtain ⟨A3, c3, rfl, h31, h32, hE3⟩ := hs3.slice
  obtain ⟨w4, hw4⟩ : ∃ w4 : World, w4 = w3.alloc (.cells #[.int .i64 (flatG t).terms, .int .i64 (flatG t).nons, .int .i64 (flatG t).start, .slice A3 (flatG t).rules.length c3] 49) := ⟨_, rfl⟩
  have HW4 := Lib.hid hw4
  have hb4 : Below w3.heap.size w3 w4 := by rw [hw4]; exact (Below.refl _ _).alloc (Nat.le_refl _) _
  have HG4 : Hid (Blk' w4 w3.heap.size 49 #[.int .i64 (flatG t).terms, .int .i64 (flatG t).nons, .int .i64 (flatG t).start, .slice A3 (flatG t).rules.length c3]) := Lib.hid (by rw [hw4]; exact Blk'.new w3 _ _)
  have hb24 := bthen hb3 hb4 hb3.size
  have HT4 := Lib.hid (HT2.out.below hb24 HT2.out.lt)
  have HE4 := Lib.hid (And.intro (HE2.out.below hb24) (hE3.below hb4))
  have HB4 := Lib.hid (bthen HB2.out hb24 HB2.out.size)
  have hz23 : w2.heap.size ≤ w3.heap.size := hb3.size
  clear hs3 hE3 hb3 hb4 hb24 hw4
  go_wp2_with fail
  rw [← HW4.out]
  refine (climbs_any w4).mono ?_
  rintro e w5 ⟨rfl, hb5⟩
  have hT5 := HT4.out.below hb5 HT4.out.lt
  have hG5 := HG4.out.below hb5 HG4.out.lt
  have HT5 := Lib.hid hT5
  have HE5 := Lib.hid (And.intro (HE4.out.1.below hb5) (HE4.out.2.below hb5))
  have HB5 := Lib.hid (bthen HB4.out hb5 HB4.out.size)
  have hz45 : w4.heap.size ≤ w5.heap.size := hb5.size
  have hz34 : w3.heap.size < w4.heap.size := HG4.out.lt
  have eF : flatG t = ⟨t.terms, 1, 0, flatRules t⟩ := by unfold flatG; rw [if_pos HC.out]
  have HMk := Lib.hid (makeTree_any (flatG t) A3 c3 ch B d _ S' w5 (by have h := H64.out; rw [eF]; exact ⟨h.1, i64_1, i64_0⟩) h31 h32
    (by rw [eF]; have h1 := V.out.ops; have h2 := V.out.levels; simp only [flatRules, List.length_cons, List.length_append, levRules_len]; split <;> simp only [List.length_cons, List.length_nil] <;> omega) (by rw [eF]; exact frules_len') HE5.out.2 (fun b hb => by have := hb.2; omega) hld hd (HB.out.belowB HB5.out HS'.out) (fun b hb => by have h1 := HS'.out b hb; have h2 := HB5.out.size; omega))
  have g0 : w5.cell? ⟨w3.heap.size, 0, none⟩ = some (.int .i64 (flatG t).terms) := hG5.cell 0
  have g1 : w5.cell? ⟨w3.heap.size, 1, none⟩ = some (.int .i64 (flatG t).nons) := hG5.cell 1
  have g2 : w5.cell? ⟨w3.heap.size, 2, none⟩ = some (.int .i64 (flatG t).start) := hG5.cell 2
  have g3 : w5.cell? ⟨w3.heap.size, 3, none⟩ = some (.slice A3 (flatG t).rules.length c3) := hG5.cell 3
  have zG5 : w3.heap.size < w5.heap.size := hG5.lt
  clear hb5 hT5 hG5 eF
  go_wp2_with fail
  refine HMk.out.mono ?_
  rintro e w6 ⟨v6, ok, rfl, hb6, ⟨a6, b6, A6, n6, c6, rfl⟩, htree⟩
  have HTr := Lib.hid htree
  have HT6 := Lib.hid (HT5.out.below hb6 HT5.out.lt)
  have HE6 := Lib.hid (HE5.out.1.below hb6)
  have HB6 := Lib.hid (bthen HB5.out hb6 HB5.out.size)
  clear htree g0 g1 g2 g3
  cases ok
  · have HB6' := Lib.hid (HB6.out.alloc HB6.out.size (.cells #[.int .i64 a6, .int .i64 b6, .slice A6 n6 c6] 41))
    clear hb6
    go_wp2
    go_ret
    exact ⟨rfl, HB6'.out⟩
  · obtain ⟨x, hvt, hvx, hyl⟩ := HTr.out rfl
    obtain ⟨sx, esx, hxr, hxt, hsx⟩ := hvx.tree
    obtain ⟨Ax, cx, rfl, hx1, hx2, hEx⟩ := hsx.slice
    simp only [Value.agg.injEq, List.toArray_inj, Array.mk.injEq, List.cons.injEq, Value.int.injEq, Value.slice.injEq] at esx
    obtain ⟨⟨_, rfl⟩, ⟨_, rfl⟩, ⟨rfl, rfl, rfl⟩, _⟩ := esx
    obtain ⟨p1, p2, p3, p4⟩ := allow_all HC.out hvt hyl
    have HP := Lib.hid (And.intro p1 (And.intro p2 (And.intro p3 p4)))
    have HYl := Lib.hid hyl
    have hz56 : w5.heap.size ≤ w6.heap.size := hb6.size
    obtain ⟨w7, hw7⟩ : ∃ w7 : World, w7 = w6.alloc (.cells #[.int .i64 x.rule, .int .i64 x.term, .slice A6 x.kids.length c6] 41) := ⟨_, rfl⟩
    have HW7 := Lib.hid hw7
    have hb7 : Below w6.heap.size w6 w7 := by rw [hw7]; exact (Below.refl _ _).alloc (Nat.le_refl _) _
    have HX7 : Hid (Blk' w7 w6.heap.size 41 #[.int .i64 x.rule, .int .i64 x.term, .slice A6 x.kids.length c6]) := Lib.hid (by rw [hw7]; exact Blk'.new w6 _ _)
    have HT7 := Lib.hid (HT6.out.below hb7 HT6.out.lt)
    have HE7 := Lib.hid (And.intro (HE6.out.below hb7) (hEx.below hb7))
    have HB7 := Lib.hid (bthen HB6.out hb7 HB6.out.size)
    have hz67 : w6.heap.size < w7.heap.size := HX7.out.lt
    have HAl := Lib.hid (allowed_any t x A1 A6 c1 c6 _ _ w7 H64.out hl1 hl2 HE7.out.1 (fun b hb => by have := hb.2; omega) HOl.out hxr hxt hx1 hx2 HE7.out.2 (fun b hb => by have := hb.2; omega))
    have t0 : w7.cell? ⟨w1.heap.size, 0, none⟩ = some (.int .i64 t.terms) := HT7.out.cell 0
    have t1 : w7.cell? ⟨w1.heap.size, 1, none⟩ = some (.int .i64 t.atom) := HT7.out.cell 1
    have t2 : w7.cell? ⟨w1.heap.size, 2, none⟩ = some (.int .i64 t.opn) := HT7.out.cell 2
    have t3 : w7.cell? ⟨w1.heap.size, 3, none⟩ = some (.int .i64 t.cls) := HT7.out.cell 3
    have t4 : w7.cell? ⟨w1.heap.size, 4, none⟩ = some (.slice A1 t.levels.length c1) := HT7.out.cell 4
    have x0 : w7.cell? ⟨w6.heap.size, 0, none⟩ = some (.int .i64 x.rule) := HX7.out.cell 0
    have x1 : w7.cell? ⟨w6.heap.size, 1, none⟩ = some (.int .i64 x.term) := HX7.out.cell 1
    have x2 : w7.cell? ⟨w6.heap.size, 2, none⟩ = some (.slice A6 x.kids.length c6) := HX7.out.cell 2
    have HI := Lib.hid (And.intro hxr hxt)
    clear hvt hvx hsx hb6 hb7 hw7 p1 p2 p3 p4 hyl hEx hT8 hT0 hxr hxt
    go_upto_region 8 with (fail)
    rw [← HW7.out]
    go_wp2_with fail
    refine HAl.out.mono ?_
    rintro e w9 ⟨rfl, hb9⟩
    rw [HP.out.1, HP.out.2.1]
    have HT9 := Lib.hid (HT7.out.below hb9 HT7.out.lt)
    have HX9 := Lib.hid (HX7.out.below hb9 HX7.out.lt)
    have HE9 := Lib.hid (And.intro (HE7.out.1.below hb9) (HE7.out.2.below hb9))
    have HB9 := Lib.hid (bthen HB7.out hb9 HB7.out.size)
    have hz79 : w7.heap.size ≤ w9.heap.size := hb9.size
    clear t0 t1 t2 t3 t4 x0 x1 x2 hb9
    have k0 : w9.cell? ⟨w1.heap.size, 0, none⟩ = some (.int .i64 t.terms) := HT9.out.cell 0
    have k1 : w9.cell? ⟨w1.heap.size, 1, none⟩ = some (.int .i64 t.atom) := HT9.out.cell 1
    have k2 : w9.cell? ⟨w1.heap.size, 2, none⟩ = some (.int .i64 t.opn) := HT9.out.cell 2
    have k3 : w9.cell? ⟨w1.heap.size, 3, none⟩ = some (.int .i64 t.cls) := HT9.out.cell 3
    have k4 : w9.cell? ⟨w1.heap.size, 4, none⟩ = some (.slice A1 t.levels.length c1) := HT9.out.cell 4
    have k5 : w9.cell? ⟨w6.heap.size, 0, none⟩ = some (.int .i64 x.rule) := HX9.out.cell 0
    have k6 : w9.cell? ⟨w6.heap.size, 1, none⟩ = some (.int .i64 x.term) := HX9.out.cell 1
    have k7 : w9.cell? ⟨w6.heap.size, 2, none⟩ = some (.slice A6 x.kids.length c6) := HX9.out.cell 2
    have zT9 : w1.heap.size < w9.heap.size := HT9.out.lt
    have zX9 : w6.heap.size < w9.heap.size := HX9.out.lt
    cases hal : allowE t x
    · go_upto_region 9 with (fail)
      refine wp_region_noPanic ?_
      refine wp_region_held_drew (S := (fun w' => w'.cell? ⟨w1.heap.size, 0, none⟩ = some (.int .i64 t.terms) ∧ w'.cell? ⟨w1.heap.size, 1, none⟩ = some (.int .i64 t.atom) ∧ w'.cell? ⟨w1.heap.size, 2, none⟩ = some (.int .i64 t.opn) ∧ w'.cell? ⟨w1.heap.size, 3, none⟩ = some (.int .i64 t.cls) ∧ w'.cell? ⟨w1.heap.size, 4, none⟩ = some (.slice A1 t.levels.length c1) ∧ w'.cell? ⟨w6.heap.size, 0, none⟩ = some (.int .i64 x.rule) ∧ w'.cell? ⟨w6.heap.size, 1, none⟩ = some (.int .i64 x.term) ∧ w'.cell? ⟨w6.heap.size, 2, none⟩ = some (.slice A6 x.kids.length c6))) (by kernel_rfl) ?hfs (fun hHeld => ?bfs)
      case hfs => ((try dsimp only); go_keep)
      refine take_run (i := 0) (v := ?vfs0) rfl (by kernel_rfl) (by kernel_rfl) (by kernel_rfl) (fun _ _ _ h => h) (by rfl) ?yfs0 (by assumption) ?rfs0
      case yfs0 => (intro w hSw; (try dsimp only at hSw); go_simp; try with_reducible rfl)
      try simp only [Act.put, List.setIfInBounds_toArray, List.set_cons_zero, List.set_cons_succ]
      refine take_run (i := 1) (v := ?vfs1) rfl (by kernel_rfl) (by kernel_rfl) (by kernel_rfl) (fun _ _ _ h => h) (by rfl) ?yfs1 (by assumption) ?rfs1
      case yfs1 => (intro w hSw; (try dsimp only at hSw); go_simp; try with_reducible rfl)
      try simp only [Act.put, List.setIfInBounds_toArray, List.set_cons_zero, List.set_cons_succ]
      refine take_two (i := 2) (j := 8) rfl rfl (by kernel_rfl) (by rfl) (by rfl) (fun Kq hK => ?onefp2) (fun Kq hK => ?twofp2)
      case onefp2 =>
        go_simp
        go_at_call 30
        have HBY := Lib.hid (below_drew w9)
        refine (yield_any x A6 c6 _ _ (fun b hb => by have h1 := hb.2; have h2 := HBY.out.size; omega) HI.out.1 HI.out.2 hx1 hx2 (HE9.out.2.below HBY.out) (by have := HYl.out; omega)).mono ?_
        rintro e wb ⟨vb, rfl, hOb, hbb⟩
        obtain ⟨Ab, cb, rfl, hbl1, hbl2, _⟩ := hOb.form
        have HBb := Lib.hid (bthen HBY.out hbb HBY.out.size)
        have HOb := Lib.hid hOb.vl.els.2.2.2
        have hzb : w9.heap.size ≤ wb.heap.size := HBb.out.size
        have n0 : wb.cell? ⟨w1.heap.size, 0, none⟩ = some (.int .i64 t.terms) := (HBb.out.cell (p := ⟨w1.heap.size, 0, none⟩) (by show w1.heap.size < w9.heap.size; omega)).trans (HT9.out.cell 0)
        have n1 : wb.cell? ⟨w1.heap.size, 1, none⟩ = some (.int .i64 t.atom) := (HBb.out.cell (p := ⟨w1.heap.size, 1, none⟩) (by show w1.heap.size < w9.heap.size; omega)).trans (HT9.out.cell 1)
        have n2 : wb.cell? ⟨w1.heap.size, 2, none⟩ = some (.int .i64 t.opn) := (HBb.out.cell (p := ⟨w1.heap.size, 2, none⟩) (by show w1.heap.size < w9.heap.size; omega)).trans (HT9.out.cell 2)
        have n3 : wb.cell? ⟨w1.heap.size, 3, none⟩ = some (.int .i64 t.cls) := (HBb.out.cell (p := ⟨w1.heap.size, 3, none⟩) (by show w1.heap.size < w9.heap.size; omega)).trans (HT9.out.cell 3)
        have n4 : wb.cell? ⟨w1.heap.size, 4, none⟩ = some (.slice A1 t.levels.length c1) := (HBb.out.cell (p := ⟨w1.heap.size, 4, none⟩) (by show w1.heap.size < w9.heap.size; omega)).trans (HT9.out.cell 4)
        have n5 : wb.cell? ⟨w6.heap.size, 0, none⟩ = some (.int .i64 x.rule) := (HBb.out.cell (p := ⟨w6.heap.size, 0, none⟩) (by show w6.heap.size < w9.heap.size; omega)).trans (HX9.out.cell 0)
        have n6 : wb.cell? ⟨w6.heap.size, 1, none⟩ = some (.int .i64 x.term) := (HBb.out.cell (p := ⟨w6.heap.size, 1, none⟩) (by show w6.heap.size < w9.heap.size; omega)).trans (HX9.out.cell 1)
        have n7 : wb.cell? ⟨w6.heap.size, 2, none⟩ = some (.slice A6 x.kids.length c6) := (HBb.out.cell (p := ⟨w6.heap.size, 2, none⟩) (by show w6.heap.size < w9.heap.size; omega)).trans (HX9.out.cell 2)
        clear hOb hbb
        refine hK.out _ _ ?hfy2 (fun hHeld => ?rfy2)
        case hfy2 => ((try dsimp only); go_keep)
        clear hK Kq
        try simp only [Act.put, List.setIfInBounds_toArray, List.set_cons_zero, List.set_cons_succ]
        refine take_two (i := 3) (j := 8) rfl rfl (by kernel_rfl) (by rfl) (by rfl) (fun Kq hK => ?onefq3) (fun Kq hK => ?twofq3)
        case onefq3 =>
          go_simp
          go_at_call 14
          have HBC := Lib.hid (Below.refl wb.heap.size wb)
          have HBCw := Lib.hid (bthen HBb.out HBC.out HBb.out.size)
          obtain ⟨r0, hr0, _⟩ := climb_total t (yieldT x)
          refine (climb_any t (yieldT x) A1 Ab c1 cb _ _ _ H64.out hl1 hl2 (HE9.out.1.below HBCw.out) (fun b hb => by have h1 := hb.2; have h2 := HBCw.out.size; omega) (HOb.out.below HBC.out) (fun b hb => by have h1 := hb.2; have h2 := HBC.out.size; omega) HC.out HP.out.2.2.1 hbl1 hbl2 r0 hr0).mono ?_
          rintro e wc hret
          obtain ⟨ac, bc, Ac, mc, cc, atc, erc, rfl, hbc⟩ := retC_form hret
          have HBc := Lib.hid (bthen HBCw.out hbc HBCw.out.size)
          have hzbc : wb.heap.size ≤ wc.heap.size := by have h1 := HBC.out.size; have h2 := hbc.size; omega
          have m0 : wc.cell? ⟨w1.heap.size, 0, none⟩ = some (.int .i64 t.terms) := (HBc.out.cell (p := ⟨w1.heap.size, 0, none⟩) (by show w1.heap.size < w9.heap.size; omega)).trans (HT9.out.cell 0)
          have m1 : wc.cell? ⟨w1.heap.size, 1, none⟩ = some (.int .i64 t.atom) := (HBc.out.cell (p := ⟨w1.heap.size, 1, none⟩) (by show w1.heap.size < w9.heap.size; omega)).trans (HT9.out.cell 1)
          have m2 : wc.cell? ⟨w1.heap.size, 2, none⟩ = some (.int .i64 t.opn) := (HBc.out.cell (p := ⟨w1.heap.size, 2, none⟩) (by show w1.heap.size < w9.heap.size; omega)).trans (HT9.out.cell 2)
          have m3 : wc.cell? ⟨w1.heap.size, 3, none⟩ = some (.int .i64 t.cls) := (HBc.out.cell (p := ⟨w1.heap.size, 3, none⟩) (by show w1.heap.size < w9.heap.size; omega)).trans (HT9.out.cell 3)
          have m4 : wc.cell? ⟨w1.heap.size, 4, none⟩ = some (.slice A1 t.levels.length c1) := (HBc.out.cell (p := ⟨w1.heap.size, 4, none⟩) (by show w1.heap.size < w9.heap.size; omega)).trans (HT9.out.cell 4)
          have m5 : wc.cell? ⟨w6.heap.size, 0, none⟩ = some (.int .i64 x.rule) := (HBc.out.cell (p := ⟨w6.heap.size, 0, none⟩) (by show w6.heap.size < w9.heap.size; omega)).trans (HX9.out.cell 0)
          have m6 : wc.cell? ⟨w6.heap.size, 1, none⟩ = some (.int .i64 x.term) := (HBc.out.cell (p := ⟨w6.heap.size, 1, none⟩) (by show w6.heap.size < w9.heap.size; omega)).trans (HX9.out.cell 1)
          have m7 : wc.cell? ⟨w6.heap.size, 2, none⟩ = some (.slice A6 x.kids.length c6) := (HBc.out.cell (p := ⟨w6.heap.size, 2, none⟩) (by show w6.heap.size < w9.heap.size; omega)).trans (HX9.out.cell 2)
          clear hret hbc
          refine hK.out _ _ ?hfc3 (fun hHeld => ?rfc3)
          case hfc3 => ((try dsimp only); go_keep)
          clear hK Kq
          try simp only [Act.put, List.setIfInBounds_toArray, List.set_cons_zero, List.set_cons_succ]
          refine take_run (i := 4) (v := ?vfc4) rfl (by kernel_rfl) (by kernel_rfl) (by kernel_rfl) (fun _ _ _ h => h) (by rfl) ?yfc4 (by assumption) ?rfc4
          case yfc4 => (intro w hSw; (try dsimp only at hSw); go_simp; try with_reducible rfl)
          try simp only [Act.put, List.setIfInBounds_toArray, List.set_cons_zero, List.set_cons_succ]
          refine take_run (i := 5) (v := ?vfc5) rfl (by kernel_rfl) (by kernel_rfl) (by kernel_rfl) (fun _ _ _ h => h) (by rfl) ?yfc5 (by assumption) ?rfc5
          case yfc5 => (intro w hSw; (try dsimp only at hSw); go_simp; try with_reducible rfl)
          try simp only [Act.put, List.setIfInBounds_toArray, List.set_cons_zero, List.set_cons_succ]
          refine take_run (i := 6) (v := ?vfc6) rfl (by kernel_rfl) (by kernel_rfl) (by kernel_rfl) (fun _ _ _ h => h) (by rfl) ?yfc6 (by assumption) ?rfc6
          case yfc6 => (intro w hSw; (try dsimp only at hSw); go_simp; try with_reducible rfl)
          try simp only [Act.put, List.setIfInBounds_toArray, List.set_cons_zero, List.set_cons_succ]
          refine take_run (i := 7) (v := ?vfc7) rfl (by kernel_rfl) (by kernel_rfl) (by kernel_rfl) (fun _ _ _ h => h) (by rfl) ?yfc7 (by assumption) ?rfc7
          case yfc7 => (intro w hSw; (try dsimp only at hSw); go_simp; try with_reducible rfl)
          try simp only [Act.put, List.setIfInBounds_toArray, List.set_cons_zero, List.set_cons_succ]
          refine take_call (i := 8) rfl (by kernel_rfl) (by rfl) (fun Kq hK => ?_)
          go_simp
          refine hK.out _ _ ?hfc8 (fun hHeld => ?rfc8)
          case hfc8 => ((try dsimp only); go_keep)
          clear hK Kq
          try simp only [Act.put, List.setIfInBounds_toArray, List.set_cons_zero, List.set_cons_succ]
          refine take_call (i := 9) rfl (by kernel_rfl) (by rfl) (fun Kq hK => ?_)
          go_simp
          refine hK.out _ _ ?hfc9 (fun hHeld => ?rfc9)
          case hfc9 => ((try dsimp only); go_keep)
          clear hK Kq
          try simp only [Act.put, List.setIfInBounds_toArray, List.set_cons_zero, List.set_cons_succ]
          refine take_run (i := 10) (v := ?vfc10) rfl (by kernel_rfl) (by kernel_rfl) (by kernel_rfl) (fun _ _ _ h => h) (by rfl) ?yfc10 (by assumption) ?rfc10
          case yfc10 => (intro w hSw; (try dsimp only at hSw); go_simp; try with_reducible rfl)
          try simp only [Act.put, List.setIfInBounds_toArray, List.set_cons_zero, List.set_cons_succ]
          refine take_run (i := 11) (v := ?vfc11) rfl (by kernel_rfl) (by kernel_rfl) (by kernel_rfl) (fun _ _ _ h => h) (by rfl) ?yfc11 (by assumption) ?rfc11
          case yfc11 => (intro w hSw; (try dsimp only at hSw); go_simp; try with_reducible rfl)
          try simp only [Act.put, List.setIfInBounds_toArray, List.set_cons_zero, List.set_cons_succ]
          refine wpAnyH_done (by kernel_rfl) ?_ _
          refine NoPanic.normal ?_
          generalize hwF : World.alloc _ _ = wF
          have hKF : Kept (fun b => b = wc.heap.size) wc wF := by rw [← hwF]; exact (Kept.refl _ wc).alloc _
          have hZF : Blk' wF wc.heap.size 41 #[.int .i64 ac, .int .i64 bc, .slice Ac mc cc] := by rw [← hwF]; exact Blk'.new' _ _ _ rfl
          have zge : w.heap.size ≤ wc.heap.size := by have h1 := HB9.out.size; omega
          have hz6 : w6.heap.size < wc.heap.size := by omega
          have HBF := Lib.hid ((HB9.out.trans (HBc.out.mono (show w.heap.size ≤ w9.heap.size from HB9.out.size))).trans (hKF.to_below (B := w.heap.size) (fun b (hb : b = wc.heap.size) => by omega) (by have h1 := HB9.out.size; omega)))
          clear hwF hKF hZF
          go_wp2
          go_ret
          exact ⟨rfl, HBF.out⟩
        case twofq3 =>
          go_simp
          refine hK.out _ _ ?hfb8 (fun hHeld => ?rfb8)
          case hfb8 => ((try dsimp only); go_keep)
          clear hK Kq
          try simp only [Act.put, List.setIfInBounds_toArray, List.set_cons_zero, List.set_cons_succ]
          refine take_call (i := 3) rfl (by kernel_rfl) (by rfl) (fun Kq hK => ?_)
          go_simp
          go_at_call 14
          have HBC := Lib.hid ((Below.refl wb.heap.size wb).alloc (Nat.le_refl _) (.cells #[.int .i64 0, .int .i64 0, .slice none 0 0] 41))
          have HBCw := Lib.hid (bthen HBb.out HBC.out HBb.out.size)
          obtain ⟨r0, hr0, _⟩ := climb_total t (yieldT x)
          refine (climb_any t (yieldT x) A1 Ab c1 cb _ _ _ H64.out hl1 hl2 (HE9.out.1.below HBCw.out) (fun b hb => by have h1 := hb.2; have h2 := HBCw.out.size; omega) (HOb.out.below HBC.out) (fun b hb => by have h1 := hb.2; have h2 := HBC.out.size; omega) HC.out HP.out.2.2.1 hbl1 hbl2 r0 hr0).mono ?_
          rintro e wc hret
          obtain ⟨ac, bc, Ac, mc, cc, atc, erc, rfl, hbc⟩ := retC_form hret
          have HBc := Lib.hid (bthen HBCw.out hbc HBCw.out.size)
          have hzbc : wb.heap.size ≤ wc.heap.size := by have h1 := HBC.out.size; have h2 := hbc.size; omega
          have m0 : wc.cell? ⟨w1.heap.size, 0, none⟩ = some (.int .i64 t.terms) := (HBc.out.cell (p := ⟨w1.heap.size, 0, none⟩) (by show w1.heap.size < w9.heap.size; omega)).trans (HT9.out.cell 0)
          have m1 : wc.cell? ⟨w1.heap.size, 1, none⟩ = some (.int .i64 t.atom) := (HBc.out.cell (p := ⟨w1.heap.size, 1, none⟩) (by show w1.heap.size < w9.heap.size; omega)).trans (HT9.out.cell 1)
          have m2 : wc.cell? ⟨w1.heap.size, 2, none⟩ = some (.int .i64 t.opn) := (HBc.out.cell (p := ⟨w1.heap.size, 2, none⟩) (by show w1.heap.size < w9.heap.size; omega)).trans (HT9.out.cell 2)
          have m3 : wc.cell? ⟨w1.heap.size, 3, none⟩ = some (.int .i64 t.cls) := (HBc.out.cell (p := ⟨w1.heap.size, 3, none⟩) (by show w1.heap.size < w9.heap.size; omega)).trans (HT9.out.cell 3)
          have m4 : wc.cell? ⟨w1.heap.size, 4, none⟩ = some (.slice A1 t.levels.length c1) := (HBc.out.cell (p := ⟨w1.heap.size, 4, none⟩) (by show w1.heap.size < w9.heap.size; omega)).trans (HT9.out.cell 4)
          have m5 : wc.cell? ⟨w6.heap.size, 0, none⟩ = some (.int .i64 x.rule) := (HBc.out.cell (p := ⟨w6.heap.size, 0, none⟩) (by show w6.heap.size < w9.heap.size; omega)).trans (HX9.out.cell 0)
          have m6 : wc.cell? ⟨w6.heap.size, 1, none⟩ = some (.int .i64 x.term) := (HBc.out.cell (p := ⟨w6.heap.size, 1, none⟩) (by show w6.heap.size < w9.heap.size; omega)).trans (HX9.out.cell 1)
          have m7 : wc.cell? ⟨w6.heap.size, 2, none⟩ = some (.slice A6 x.kids.length c6) := (HBc.out.cell (p := ⟨w6.heap.size, 2, none⟩) (by show w6.heap.size < w9.heap.size; omega)).trans (HX9.out.cell 2)
          have hZc := (Blk'.new wb 41 #[.int .i64 0, .int .i64 0, .slice none 0 0]).below hbc (by simp)
          have HZc := Lib.hid hZc
          have zc0 : wc.cell? ⟨wb.heap.size, 0, none⟩ = some (.int .i64 0) := hZc.cell 0
          have zc1 : wc.cell? ⟨wb.heap.size, 1, none⟩ = some (.int .i64 0) := hZc.cell 1
          have zc2 : wc.cell? ⟨wb.heap.size, 2, none⟩ = some (.slice none 0 0) := hZc.cell 2
          have zf0 := hZc.frozen 0
          have zf1 := hZc.frozen 1
          have zf2 := hZc.frozen 2
          have zlt : wb.heap.size < wc.heap.size := hZc.lt
          have ne1 : ¬ wb.heap.size = w1.heap.size := by omega
          have ne2 : ¬ wb.heap.size = w6.heap.size := by omega
          have zge : w.heap.size ≤ wb.heap.size := by have h1 := HB9.out.size; omega
          clear hZc
          clear hret hbc
          refine hK.out _ _ ?hfb3 (fun hHeld => ?rfb3)
          case hfb3 => ((try dsimp only); go_keep)
          clear hK Kq
          try simp only [Act.put, List.setIfInBounds_toArray, List.set_cons_zero, List.set_cons_succ]
          refine take_run (i := 4) (v := ?vfb4) rfl (by kernel_rfl) (by kernel_rfl) (by kernel_rfl) (fun _ _ _ h => h) (by rfl) ?yfb4 (by assumption) ?rfb4
          case yfb4 => (intro w hSw; (try dsimp only at hSw); go_simp; try with_reducible rfl)
          try simp only [Act.put, List.setIfInBounds_toArray, List.set_cons_zero, List.set_cons_succ]
          refine take_run (i := 5) (v := ?vfb5) rfl (by kernel_rfl) (by kernel_rfl) (by kernel_rfl) (fun _ _ _ h => h) (by rfl) ?yfb5 (by assumption) ?rfb5
          case yfb5 => (intro w hSw; (try dsimp only at hSw); go_simp; try with_reducible rfl)
          try simp only [Act.put, List.setIfInBounds_toArray, List.set_cons_zero, List.set_cons_succ]
          refine take_run (i := 6) (v := ?vfb6) rfl (by kernel_rfl) (by kernel_rfl) (by kernel_rfl) (fun _ _ _ h => h) (by rfl) ?yfb6 (by assumption) ?rfb6
          case yfb6 => (intro w hSw; (try dsimp only at hSw); go_simp; try with_reducible rfl)
          try simp only [Act.put, List.setIfInBounds_toArray, List.set_cons_zero, List.set_cons_succ]
          refine take_run (i := 7) (v := ?vfb7) rfl (by kernel_rfl) (by kernel_rfl) (by kernel_rfl) (fun _ _ _ h => h) (by rfl) ?yfb7 (by assumption) ?rfb7
          case yfb7 => (intro w hSw; (try dsimp only at hSw); go_simp; try with_reducible rfl)
          try simp only [Act.put, List.setIfInBounds_toArray, List.set_cons_zero, List.set_cons_succ]
          refine take_call (i := 9) rfl (by kernel_rfl) (by rfl) (fun Kq hK => ?_)
          go_simp
          refine hK.out _ _ ?hfb9 (fun hHeld => ?rfb9)
          case hfb9 => ((try dsimp only); go_keep)
          clear hK Kq
          try simp only [Act.put, List.setIfInBounds_toArray, List.set_cons_zero, List.set_cons_succ]
          refine take_run (i := 10) (v := ?vfb10) rfl (by kernel_rfl) (by kernel_rfl) (by kernel_rfl) (fun _ _ _ h => h) (by rfl) ?yfb10 (by assumption) ?rfb10
          case yfb10 => (intro w hSw; (try dsimp only at hSw); go_simp; try with_reducible rfl)
          try simp only [Act.put, List.setIfInBounds_toArray, List.set_cons_zero, List.set_cons_succ]
          refine take_run (i := 11) (v := ?vfb11) rfl (by kernel_rfl) (by kernel_rfl) (by kernel_rfl) (fun _ _ _ h => h) (by rfl) ?yfb11 (by assumption) ?rfb11
          case yfb11 => (intro w hSw; (try dsimp only at hSw); go_simp; try with_reducible rfl)
          try simp only [Act.put, List.setIfInBounds_toArray, List.set_cons_zero, List.set_cons_succ]
          refine wpAnyH_done (by kernel_rfl) ?_ _
          refine NoPanic.normal ?_
          generalize hwF : World.setCell _ _ _ = wF
          have hKF : Kept (fun b => b = wb.heap.size) wc wF := by rw [← hwF]; exact (((Kept.refl (fun b => b = wb.heap.size) wc).setCell (p := ⟨wb.heap.size, 0, none⟩) (.inl rfl) _).setCell (p := ⟨wb.heap.size, 1, none⟩) (.inl rfl) _).setCell (p := ⟨wb.heap.size, 2, none⟩) (.inl rfl) _
          have hZF : Blk' wF wb.heap.size 41 #[.int .i64 ac, .int .i64 bc, .slice Ac mc cc] := by rw [← hwF]; exact ((HZc.out.set_ 0 _).set_ 1 _).set_ 2 _
          have hz6 : w6.heap.size < wb.heap.size := by omega
          have HBF := Lib.hid ((HB9.out.trans (HBc.out.mono (show w.heap.size ≤ w9.heap.size from HB9.out.size))).trans (hKF.to_below (B := w.heap.size) (fun b (hb : b = wb.heap.size) => by omega) (by have h1 := HB9.out.size; omega)))
          clear hwF hKF hZF
          go_wp2
          go_ret
          exact ⟨rfl, HBF.out⟩
      case twofp2 =>
        go_simp
        refine hK.out _ _ ?hfa8 (fun hHeld => ?rfa8)
        case hfa8 => ((try dsimp only); go_keep)
        clear hK Kq
        try simp only [Act.put, List.setIfInBounds_toArray, List.set_cons_zero, List.set_cons_succ]
        refine take_call (i := 2) rfl (by kernel_rfl) (by rfl) (fun Kq hK => ?_)
        go_simp
        go_at_call 30
        have HBY := Lib.hid ((below_drew w9).alloc (Nat.le_refl _) (.cells #[.int .i64 0, .int .i64 0, .slice none 0 0] 41))
        refine (yield_any x A6 c6 _ _ (fun b hb => by have h1 := hb.2; have h2 := HBY.out.size; omega) HI.out.1 HI.out.2 hx1 hx2 (HE9.out.2.below HBY.out) (by have := HYl.out; omega)).mono ?_
        rintro e wb ⟨vb, rfl, hOb, hbb⟩
        obtain ⟨Ab, cb, rfl, hbl1, hbl2, _⟩ := hOb.form
        have HBb := Lib.hid (bthen HBY.out hbb HBY.out.size)
        have HOb := Lib.hid hOb.vl.els.2.2.2
        have hzb : w9.heap.size ≤ wb.heap.size := HBb.out.size
        have n0 : wb.cell? ⟨w1.heap.size, 0, none⟩ = some (.int .i64 t.terms) := (HBb.out.cell (p := ⟨w1.heap.size, 0, none⟩) (by show w1.heap.size < w9.heap.size; omega)).trans (HT9.out.cell 0)
        have n1 : wb.cell? ⟨w1.heap.size, 1, none⟩ = some (.int .i64 t.atom) := (HBb.out.cell (p := ⟨w1.heap.size, 1, none⟩) (by show w1.heap.size < w9.heap.size; omega)).trans (HT9.out.cell 1)
        have n2 : wb.cell? ⟨w1.heap.size, 2, none⟩ = some (.int .i64 t.opn) := (HBb.out.cell (p := ⟨w1.heap.size, 2, none⟩) (by show w1.heap.size < w9.heap.size; omega)).trans (HT9.out.cell 2)
        have n3 : wb.cell? ⟨w1.heap.size, 3, none⟩ = some (.int .i64 t.cls) := (HBb.out.cell (p := ⟨w1.heap.size, 3, none⟩) (by show w1.heap.size < w9.heap.size; omega)).trans (HT9.out.cell 3)
        have n4 : wb.cell? ⟨w1.heap.size, 4, none⟩ = some (.slice A1 t.levels.length c1) := (HBb.out.cell (p := ⟨w1.heap.size, 4, none⟩) (by show w1.heap.size < w9.heap.size; omega)).trans (HT9.out.cell 4)
        have n5 : wb.cell? ⟨w6.heap.size, 0, none⟩ = some (.int .i64 x.rule) := (HBb.out.cell (p := ⟨w6.heap.size, 0, none⟩) (by show w6.heap.size < w9.heap.size; omega)).trans (HX9.out.cell 0)
        have n6 : wb.cell? ⟨w6.heap.size, 1, none⟩ = some (.int .i64 x.term) := (HBb.out.cell (p := ⟨w6.heap.size, 1, none⟩) (by show w6.heap.size < w9.heap.size; omega)).trans (HX9.out.cell 1)
        have n7 : wb.cell? ⟨w6.heap.size, 2, none⟩ = some (.slice A6 x.kids.length c6) := (HBb.out.cell (p := ⟨w6.heap.size, 2, none⟩) (by show w6.heap.size < w9.heap.size; omega)).trans (HX9.out.cell 2)
        have hZb := (Blk'.new' (g := w9.heap.size) w9.drew 41 #[.int .i64 0, .int .i64 0, .slice none 0 0] rfl).below hbb (by show w9.heap.size < (w9.drew.alloc _).heap.size; simp)
        have HZb := Lib.hid hZb
        clear hZb hOb hbb
        refine hK.out _ _ ?hfa2 (fun hHeld => ?rfa2)
        case hfa2 => ((try dsimp only); go_keep)
        clear hK Kq
        try simp only [Act.put, List.setIfInBounds_toArray, List.set_cons_zero, List.set_cons_succ]
        refine take_call (i := 3) rfl (by kernel_rfl) (by rfl) (fun Kq hK => ?_)
        go_simp
        go_at_call 14
        have HBC := Lib.hid (Below.refl wb.heap.size wb)
        have HBCw := Lib.hid (bthen HBb.out HBC.out HBb.out.size)
        obtain ⟨r0, hr0, _⟩ := climb_total t (yieldT x)
        refine (climb_any t (yieldT x) A1 Ab c1 cb _ _ _ H64.out hl1 hl2 (HE9.out.1.below HBCw.out) (fun b hb => by have h1 := hb.2; have h2 := HBCw.out.size; omega) (HOb.out.below HBC.out) (fun b hb => by have h1 := hb.2; have h2 := HBC.out.size; omega) HC.out HP.out.2.2.1 hbl1 hbl2 r0 hr0).mono ?_
        rintro e wc hret
        obtain ⟨ac, bc, Ac, mc, cc, atc, erc, rfl, hbc⟩ := retC_form hret
        have HBc := Lib.hid (bthen HBCw.out hbc HBCw.out.size)
        have hzbc : wb.heap.size ≤ wc.heap.size := by have h1 := HBC.out.size; have h2 := hbc.size; omega
        have m0 : wc.cell? ⟨w1.heap.size, 0, none⟩ = some (.int .i64 t.terms) := (HBc.out.cell (p := ⟨w1.heap.size, 0, none⟩) (by show w1.heap.size < w9.heap.size; omega)).trans (HT9.out.cell 0)
        have m1 : wc.cell? ⟨w1.heap.size, 1, none⟩ = some (.int .i64 t.atom) := (HBc.out.cell (p := ⟨w1.heap.size, 1, none⟩) (by show w1.heap.size < w9.heap.size; omega)).trans (HT9.out.cell 1)
        have m2 : wc.cell? ⟨w1.heap.size, 2, none⟩ = some (.int .i64 t.opn) := (HBc.out.cell (p := ⟨w1.heap.size, 2, none⟩) (by show w1.heap.size < w9.heap.size; omega)).trans (HT9.out.cell 2)
        have m3 : wc.cell? ⟨w1.heap.size, 3, none⟩ = some (.int .i64 t.cls) := (HBc.out.cell (p := ⟨w1.heap.size, 3, none⟩) (by show w1.heap.size < w9.heap.size; omega)).trans (HT9.out.cell 3)
        have m4 : wc.cell? ⟨w1.heap.size, 4, none⟩ = some (.slice A1 t.levels.length c1) := (HBc.out.cell (p := ⟨w1.heap.size, 4, none⟩) (by show w1.heap.size < w9.heap.size; omega)).trans (HT9.out.cell 4)
        have m5 : wc.cell? ⟨w6.heap.size, 0, none⟩ = some (.int .i64 x.rule) := (HBc.out.cell (p := ⟨w6.heap.size, 0, none⟩) (by show w6.heap.size < w9.heap.size; omega)).trans (HX9.out.cell 0)
        have m6 : wc.cell? ⟨w6.heap.size, 1, none⟩ = some (.int .i64 x.term) := (HBc.out.cell (p := ⟨w6.heap.size, 1, none⟩) (by show w6.heap.size < w9.heap.size; omega)).trans (HX9.out.cell 1)
        have m7 : wc.cell? ⟨w6.heap.size, 2, none⟩ = some (.slice A6 x.kids.length c6) := (HBc.out.cell (p := ⟨w6.heap.size, 2, none⟩) (by show w6.heap.size < w9.heap.size; omega)).trans (HX9.out.cell 2)
        have hZc := HZb.out.below hbc HZb.out.lt
        have HZc := Lib.hid hZc
        have zc0 : wc.cell? ⟨w9.heap.size, 0, none⟩ = some (.int .i64 0) := hZc.cell 0
        have zc1 : wc.cell? ⟨w9.heap.size, 1, none⟩ = some (.int .i64 0) := hZc.cell 1
        have zc2 : wc.cell? ⟨w9.heap.size, 2, none⟩ = some (.slice none 0 0) := hZc.cell 2
        have zf0 := hZc.frozen 0
        have zf1 := hZc.frozen 1
        have zf2 := hZc.frozen 2
        have zlt : w9.heap.size < wc.heap.size := hZc.lt
        have ne1 : ¬ w9.heap.size = w1.heap.size := by omega
        have ne2 : ¬ w9.heap.size = w6.heap.size := by omega
        have zge : w.heap.size ≤ w9.heap.size := by have h1 := HB9.out.size; omega
        clear hZc
        clear hret hbc
        refine hK.out _ _ ?hfa3 (fun hHeld => ?rfa3)
        case hfa3 => ((try dsimp only); go_keep)
        clear hK Kq
        try simp only [Act.put, List.setIfInBounds_toArray, List.set_cons_zero, List.set_cons_succ]
        refine take_run (i := 4) (v := ?vfa4) rfl (by kernel_rfl) (by kernel_rfl) (by kernel_rfl) (fun _ _ _ h => h) (by rfl) ?yfa4 (by assumption) ?rfa4
        case yfa4 => (intro w hSw; (try dsimp only at hSw); go_simp; try with_reducible rfl)
        try simp only [Act.put, List.setIfInBounds_toArray, List.set_cons_zero, List.set_cons_succ]
        refine take_run (i := 5) (v := ?vfa5) rfl (by kernel_rfl) (by kernel_rfl) (by kernel_rfl) (fun _ _ _ h => h) (by rfl) ?yfa5 (by assumption) ?rfa5
        case yfa5 => (intro w hSw; (try dsimp only at hSw); go_simp; try with_reducible rfl)
        try simp only [Act.put, List.setIfInBounds_toArray, List.set_cons_zero, List.set_cons_succ]
        refine take_run (i := 6) (v := ?vfa6) rfl (by kernel_rfl) (by kernel_rfl) (by kernel_rfl) (fun _ _ _ h => h) (by rfl) ?yfa6 (by assumption) ?rfa6
        case yfa6 => (intro w hSw; (try dsimp only at hSw); go_simp; try with_reducible rfl)
        try simp only [Act.put, List.setIfInBounds_toArray, List.set_cons_zero, List.set_cons_succ]
        refine take_run (i := 7) (v := ?vfa7) rfl (by kernel_rfl) (by kernel_rfl) (by kernel_rfl) (fun _ _ _ h => h) (by rfl) ?yfa7 (by assumption) ?rfa7
        case yfa7 => (intro w hSw; (try dsimp only at hSw); go_simp; try with_reducible rfl)
        try simp only [Act.put, List.setIfInBounds_toArray, List.set_cons_zero, List.set_cons_succ]
        refine take_call (i := 9) rfl (by kernel_rfl) (by rfl) (fun Kq hK => ?_)
        go_simp
        refine hK.out _ _ ?hfa9 (fun hHeld => ?rfa9)
        case hfa9 => ((try dsimp only); go_keep)
        clear hK Kq
        try simp only [Act.put, List.setIfInBounds_toArray, List.set_cons_zero, List.set_cons_succ]
        refine take_run (i := 10) (v := ?vfa10) rfl (by kernel_rfl) (by kernel_rfl) (by kernel_rfl) (fun _ _ _ h => h) (by rfl) ?yfa10 (by assumption) ?rfa10
        case yfa10 => (intro w hSw; (try dsimp only at hSw); go_simp; try with_reducible rfl)
        try simp only [Act.put, List.setIfInBounds_toArray, List.set_cons_zero, List.set_cons_succ]
        refine take_run (i := 11) (v := ?vfa11) rfl (by kernel_rfl) (by kernel_rfl) (by kernel_rfl) (fun _ _ _ h => h) (by rfl) ?yfa11 (by assumption) ?rfa11
        case yfa11 => (intro w hSw; (try dsimp only at hSw); go_simp; try with_reducible rfl)
        try simp only [Act.put, List.setIfInBounds_toArray, List.set_cons_zero, List.set_cons_succ]
        refine wpAnyH_done (by kernel_rfl) ?_ _
        refine NoPanic.normal ?_
        generalize hwF : World.setCell _ _ _ = wF
        have hKF : Kept (fun b => b = w9.heap.size) wc wF := by rw [← hwF]; exact (((Kept.refl (fun b => b = w9.heap.size) wc).setCell (p := ⟨w9.heap.size, 0, none⟩) (.inl rfl) _).setCell (p := ⟨w9.heap.size, 1, none⟩) (.inl rfl) _).setCell (p := ⟨w9.heap.size, 2, none⟩) (.inl rfl) _
        have hZF : Blk' wF w9.heap.size 41 #[.int .i64 ac, .int .i64 bc, .slice Ac mc cc] := by rw [← hwF]; exact ((HZc.out.set_ 0 _).set_ 1 _).set_ 2 _
        have hz6 : w6.heap.size < w9.heap.size := by omega
        have HBF := Lib.hid ((HB9.out.trans (HBc.out.mono (show w.heap.size ≤ w9.heap.size from HB9.out.size))).trans (hKF.to_below (B := w.heap.size) (fun b (hb : b = w9.heap.size) => by omega) (by have h1 := HB9.out.size; omega)))
        clear hwF hKF hZF
        go_wp2
        go_ret
        exact ⟨rfl, HBF.out⟩
    · have HAt := Lib.hid hal
      go_upto_region 9 with (fail)
      refine wp_region_noPanic ?_
      refine wp_region_held_drew (S := (fun w' => w'.cell? ⟨w1.heap.size, 0, none⟩ = some (.int .i64 t.terms) ∧ w'.cell? ⟨w1.heap.size, 1, none⟩ = some (.int .i64 t.atom) ∧ w'.cell? ⟨w1.heap.size, 2, none⟩ = some (.int .i64 t.opn) ∧ w'.cell? ⟨w1.heap.size, 3, none⟩ = some (.int .i64 t.cls) ∧ w'.cell? ⟨w1.heap.size, 4, none⟩ = some (.slice A1 t.levels.length c1) ∧ w'.cell? ⟨w6.heap.size, 0, none⟩ = some (.int .i64 x.rule) ∧ w'.cell? ⟨w6.heap.size, 1, none⟩ = some (.int .i64 x.term) ∧ w'.cell? ⟨w6.heap.size, 2, none⟩ = some (.slice A6 x.kids.length c6))) (by kernel_rfl) ?hts (fun hHeld => ?bts)
      case hts => ((try dsimp only); go_keep)
      refine take_run (i := 0) (v := ?vts0) rfl (by kernel_rfl) (by kernel_rfl) (by kernel_rfl) (fun _ _ _ h => h) (by rfl) ?yts0 (by assumption) ?rts0
      case yts0 => (intro w hSw; (try dsimp only at hSw); go_simp; try with_reducible rfl)
      try simp only [Act.put, List.setIfInBounds_toArray, List.set_cons_zero, List.set_cons_succ]
      refine take_run (i := 1) (v := ?vts1) rfl (by kernel_rfl) (by kernel_rfl) (by kernel_rfl) (fun _ _ _ h => h) (by rfl) ?yts1 (by assumption) ?rts1
      case yts1 => (intro w hSw; (try dsimp only at hSw); go_simp; try with_reducible rfl)
      try simp only [Act.put, List.setIfInBounds_toArray, List.set_cons_zero, List.set_cons_succ]
      refine take_two (i := 2) (j := 8) rfl rfl (by kernel_rfl) (by rfl) (by rfl) (fun Kq hK => ?onetp2) (fun Kq hK => ?twotp2)
      case onetp2 =>
        go_simp
        go_at_call 30
        have HBY := Lib.hid (below_drew w9)
        refine (yield_any x A6 c6 _ _ (fun b hb => by have h1 := hb.2; have h2 := HBY.out.size; omega) HI.out.1 HI.out.2 hx1 hx2 (HE9.out.2.below HBY.out) (by have := HYl.out; omega)).mono ?_
        rintro e wb ⟨vb, rfl, hOb, hbb⟩
        obtain ⟨Ab, cb, rfl, hbl1, hbl2, _⟩ := hOb.form
        have HBb := Lib.hid (bthen HBY.out hbb HBY.out.size)
        have HOb := Lib.hid hOb.vl.els.2.2.2
        have hzb : w9.heap.size ≤ wb.heap.size := HBb.out.size
        have n0 : wb.cell? ⟨w1.heap.size, 0, none⟩ = some (.int .i64 t.terms) := (HBb.out.cell (p := ⟨w1.heap.size, 0, none⟩) (by show w1.heap.size < w9.heap.size; omega)).trans (HT9.out.cell 0)
        have n1 : wb.cell? ⟨w1.heap.size, 1, none⟩ = some (.int .i64 t.atom) := (HBb.out.cell (p := ⟨w1.heap.size, 1, none⟩) (by show w1.heap.size < w9.heap.size; omega)).trans (HT9.out.cell 1)
        have n2 : wb.cell? ⟨w1.heap.size, 2, none⟩ = some (.int .i64 t.opn) := (HBb.out.cell (p := ⟨w1.heap.size, 2, none⟩) (by show w1.heap.size < w9.heap.size; omega)).trans (HT9.out.cell 2)
        have n3 : wb.cell? ⟨w1.heap.size, 3, none⟩ = some (.int .i64 t.cls) := (HBb.out.cell (p := ⟨w1.heap.size, 3, none⟩) (by show w1.heap.size < w9.heap.size; omega)).trans (HT9.out.cell 3)
        have n4 : wb.cell? ⟨w1.heap.size, 4, none⟩ = some (.slice A1 t.levels.length c1) := (HBb.out.cell (p := ⟨w1.heap.size, 4, none⟩) (by show w1.heap.size < w9.heap.size; omega)).trans (HT9.out.cell 4)
        have n5 : wb.cell? ⟨w6.heap.size, 0, none⟩ = some (.int .i64 x.rule) := (HBb.out.cell (p := ⟨w6.heap.size, 0, none⟩) (by show w6.heap.size < w9.heap.size; omega)).trans (HX9.out.cell 0)
        have n6 : wb.cell? ⟨w6.heap.size, 1, none⟩ = some (.int .i64 x.term) := (HBb.out.cell (p := ⟨w6.heap.size, 1, none⟩) (by show w6.heap.size < w9.heap.size; omega)).trans (HX9.out.cell 1)
        have n7 : wb.cell? ⟨w6.heap.size, 2, none⟩ = some (.slice A6 x.kids.length c6) := (HBb.out.cell (p := ⟨w6.heap.size, 2, none⟩) (by show w6.heap.size < w9.heap.size; omega)).trans (HX9.out.cell 2)
        clear hOb hbb
        refine hK.out _ _ ?hty2 (fun hHeld => ?rty2)
        case hty2 => ((try dsimp only); go_keep)
        clear hK Kq
        try simp only [Act.put, List.setIfInBounds_toArray, List.set_cons_zero, List.set_cons_succ]
        refine take_two (i := 3) (j := 8) rfl rfl (by kernel_rfl) (by rfl) (by rfl) (fun Kq hK => ?onetq3) (fun Kq hK => ?twotq3)
        case onetq3 =>
          go_simp
          go_at_call 14
          have HBC := Lib.hid (Below.refl wb.heap.size wb)
          have HBCw := Lib.hid (bthen HBb.out HBC.out HBb.out.size)
          obtain ⟨r0, hr0⟩ : ∃ r0, r0 = Res.ok x (yieldT x).length := ⟨_, rfl⟩
          refine (climb_any t (yieldT x) A1 Ab c1 cb _ _ _ H64.out hl1 hl2 (HE9.out.1.below HBCw.out) (fun b hb => by have h1 := hb.2; have h2 := HBCw.out.size; omega) (HOb.out.below HBC.out) (fun b hb => by have h1 := hb.2; have h2 := HBC.out.size; omega) HC.out HP.out.2.2.1 hbl1 hbl2 r0 (hr0 ▸ HP.out.2.2.2 HAt.out)).mono ?_
          rintro e wc hret
          rw [hr0] at hret
          obtain ⟨Ac, cc, rfl, i1, i2, i3, i4, hEc, hbc⟩ := retC_ok hret
          have HEc := Lib.hid (And.intro i3 (And.intro i4 hEc))
          clear hEc i1 i2 i3 i4 hr0
          have HBc := Lib.hid (bthen HBCw.out hbc HBCw.out.size)
          have hzbc : wb.heap.size ≤ wc.heap.size := by have h1 := HBC.out.size; have h2 := hbc.size; omega
          have m0 : wc.cell? ⟨w1.heap.size, 0, none⟩ = some (.int .i64 t.terms) := (HBc.out.cell (p := ⟨w1.heap.size, 0, none⟩) (by show w1.heap.size < w9.heap.size; omega)).trans (HT9.out.cell 0)
          have m1 : wc.cell? ⟨w1.heap.size, 1, none⟩ = some (.int .i64 t.atom) := (HBc.out.cell (p := ⟨w1.heap.size, 1, none⟩) (by show w1.heap.size < w9.heap.size; omega)).trans (HT9.out.cell 1)
          have m2 : wc.cell? ⟨w1.heap.size, 2, none⟩ = some (.int .i64 t.opn) := (HBc.out.cell (p := ⟨w1.heap.size, 2, none⟩) (by show w1.heap.size < w9.heap.size; omega)).trans (HT9.out.cell 2)
          have m3 : wc.cell? ⟨w1.heap.size, 3, none⟩ = some (.int .i64 t.cls) := (HBc.out.cell (p := ⟨w1.heap.size, 3, none⟩) (by show w1.heap.size < w9.heap.size; omega)).trans (HT9.out.cell 3)
          have m4 : wc.cell? ⟨w1.heap.size, 4, none⟩ = some (.slice A1 t.levels.length c1) := (HBc.out.cell (p := ⟨w1.heap.size, 4, none⟩) (by show w1.heap.size < w9.heap.size; omega)).trans (HT9.out.cell 4)
          have m5 : wc.cell? ⟨w6.heap.size, 0, none⟩ = some (.int .i64 x.rule) := (HBc.out.cell (p := ⟨w6.heap.size, 0, none⟩) (by show w6.heap.size < w9.heap.size; omega)).trans (HX9.out.cell 0)
          have m6 : wc.cell? ⟨w6.heap.size, 1, none⟩ = some (.int .i64 x.term) := (HBc.out.cell (p := ⟨w6.heap.size, 1, none⟩) (by show w6.heap.size < w9.heap.size; omega)).trans (HX9.out.cell 1)
          have m7 : wc.cell? ⟨w6.heap.size, 2, none⟩ = some (.slice A6 x.kids.length c6) := (HBc.out.cell (p := ⟨w6.heap.size, 2, none⟩) (by show w6.heap.size < w9.heap.size; omega)).trans (HX9.out.cell 2)
          clear hret hbc
          refine hK.out _ _ ?htc3 (fun hHeld => ?rtc3)
          case htc3 => ((try dsimp only); go_keep)
          clear hK Kq
          try simp only [Act.put, List.setIfInBounds_toArray, List.set_cons_zero, List.set_cons_succ]
          refine take_run (i := 4) (v := ?vtc4) rfl (by kernel_rfl) (by kernel_rfl) (by kernel_rfl) (fun _ _ _ h => h) (by rfl) ?ytc4 (by assumption) ?rtc4
          case ytc4 => (intro w hSw; (try dsimp only at hSw); go_simp; try with_reducible rfl)
          try simp only [Act.put, List.setIfInBounds_toArray, List.set_cons_zero, List.set_cons_succ]
          refine take_run (i := 5) (v := ?vtc5) rfl (by kernel_rfl) (by kernel_rfl) (by kernel_rfl) (fun _ _ _ h => h) (by rfl) ?ytc5 (by assumption) ?rtc5
          case ytc5 => (intro w hSw; (try dsimp only at hSw); go_simp; try with_reducible rfl)
          try simp only [Act.put, List.setIfInBounds_toArray, List.set_cons_zero, List.set_cons_succ]
          refine take_run (i := 6) (v := ?vtc6) rfl (by kernel_rfl) (by kernel_rfl) (by kernel_rfl) (fun _ _ _ h => h) (by rfl) ?ytc6 (by assumption) ?rtc6
          case ytc6 => (intro w hSw; (try dsimp only at hSw); go_simp; try with_reducible rfl)
          try simp only [Act.put, List.setIfInBounds_toArray, List.set_cons_zero, List.set_cons_succ]
          refine take_run (i := 7) (v := ?vtc7) rfl (by kernel_rfl) (by kernel_rfl) (by kernel_rfl) (fun _ _ _ h => h) (by rfl) ?ytc7 (by assumption) ?rtc7
          case ytc7 => (intro w hSw; (try dsimp only at hSw); go_simp; try with_reducible rfl)
          try simp only [Act.put, List.setIfInBounds_toArray, List.set_cons_zero, List.set_cons_succ]
          refine take_call (i := 8) rfl (by kernel_rfl) (by rfl) (fun Kq hK => ?_)
          go_simp
          refine hK.out _ _ ?htc8 (fun hHeld => ?rtc8)
          case htc8 => ((try dsimp only); go_keep)
          clear hK Kq
          try simp only [Act.put, List.setIfInBounds_toArray, List.set_cons_zero, List.set_cons_succ]
          refine take_call (i := 9) rfl (by kernel_rfl) (by rfl) (fun Kq hK => ?_)
          go_simp
          refine hK.out _ _ ?htc9 (fun hHeld => ?rtc9)
          case htc9 => ((try dsimp only); go_keep)
          clear hK Kq
          try simp only [Act.put, List.setIfInBounds_toArray, List.set_cons_zero, List.set_cons_succ]
          refine take_run (i := 10) (v := ?vtc10) rfl (by kernel_rfl) (by kernel_rfl) (by kernel_rfl) (fun _ _ _ h => h) (by rfl) ?ytc10 (by assumption) ?rtc10
          case ytc10 => (intro w hSw; (try dsimp only at hSw); go_simp; try with_reducible rfl)
          try simp only [Act.put, List.setIfInBounds_toArray, List.set_cons_zero, List.set_cons_succ]
          refine take_run (i := 11) (v := ?vtc11) rfl (by kernel_rfl) (by kernel_rfl) (by kernel_rfl) (fun _ _ _ h => h) (by rfl) ?ytc11 (by assumption) ?rtc11
          case ytc11 => (intro w hSw; (try dsimp only at hSw); go_simp; try with_reducible rfl)
          try simp only [Act.put, List.setIfInBounds_toArray, List.set_cons_zero, List.set_cons_succ]
          refine wpAnyH_done (by kernel_rfl) ?_ _
          refine NoPanic.normal ?_
          generalize hwF : World.alloc _ _ = wF
          have hKF : Kept (fun b => b = wc.heap.size) wc wF := by rw [← hwF]; exact (Kept.refl _ wc).alloc _
          have hZF : Blk' wF wc.heap.size 41 #[.int .i64 x.rule, .int .i64 x.term, .slice Ac x.kids.length cc] := by rw [← hwF]; exact Blk'.new' _ _ _ rfl
          have zge : w.heap.size ≤ wc.heap.size := by have h1 := HB9.out.size; omega
          have hz6 : w6.heap.size < wc.heap.size := by omega
          have HBF := Lib.hid ((HB9.out.trans (HBc.out.mono (show w.heap.size ≤ w9.heap.size from HB9.out.size))).trans (hKF.to_below (B := w.heap.size) (fun b (hb : b = wc.heap.size) => by omega) (by have h1 := HB9.out.size; omega)))
          have hXF := (HX9.out.below HBc.out HX9.out.lt).kept hKF (by omega)
          have HEx := Lib.hid ((HE9.out.2.below HBc.out).kept hKF (fun b hb (e : b = wc.heap.size) => by have h1 := hb.2; omega))
          have HEy := Lib.hid (HEc.out.2.2.kept hKF (fun b hb (e : b = wc.heap.size) => by have h1 := hb.1; have h2 := hb.2; omega))
          have f0 : wF.cell? ⟨w6.heap.size, 0, none⟩ = some (.int .i64 x.rule) := hXF.cell 0
          have f1 : wF.cell? ⟨w6.heap.size, 1, none⟩ = some (.int .i64 x.term) := hXF.cell 1
          have f2 : wF.cell? ⟨w6.heap.size, 2, none⟩ = some (.slice A6 x.kids.length c6) := hXF.cell 2
          have h0 : wF.cell? ⟨wc.heap.size, 0, none⟩ = some (.int .i64 x.rule) := hZF.cell 0
          have h1 : wF.cell? ⟨wc.heap.size, 1, none⟩ = some (.int .i64 x.term) := hZF.cell 1
          have h2 : wF.cell? ⟨wc.heap.size, 2, none⟩ = some (.slice Ac x.kids.length cc) := hZF.cell 2
          clear hwF hKF hZF hXF
          go_wp2_with fail
          refine (sameTreeK_any _ _ x x A6 Ac c6 cc wF ⟨hx1, hx2⟩ ⟨HEc.out.1, HEc.out.2.1⟩ HEx.out HEy.out).mono ?_
          rintro e wG ⟨rfl, hbG⟩
          rw [show decide (x = x) = true from decide_eq_true rfl]
          have HBG := Lib.hid (bthen HBF.out hbG HBF.out.size)
          clear hbG f0 f1 f2 h0 h1 h2
          go_wp2
          go_ret
          exact ⟨rfl, HBG.out⟩
        case twotq3 =>
          go_simp
          refine hK.out _ _ ?htb8 (fun hHeld => ?rtb8)
          case htb8 => ((try dsimp only); go_keep)
          clear hK Kq
          try simp only [Act.put, List.setIfInBounds_toArray, List.set_cons_zero, List.set_cons_succ]
          refine take_call (i := 3) rfl (by kernel_rfl) (by rfl) (fun Kq hK => ?_)
          go_simp
          go_at_call 14
          have HBC := Lib.hid ((Below.refl wb.heap.size wb).alloc (Nat.le_refl _) (.cells #[.int .i64 0, .int .i64 0, .slice none 0 0] 41))
          have HBCw := Lib.hid (bthen HBb.out HBC.out HBb.out.size)
          obtain ⟨r0, hr0⟩ : ∃ r0, r0 = Res.ok x (yieldT x).length := ⟨_, rfl⟩
          refine (climb_any t (yieldT x) A1 Ab c1 cb _ _ _ H64.out hl1 hl2 (HE9.out.1.below HBCw.out) (fun b hb => by have h1 := hb.2; have h2 := HBCw.out.size; omega) (HOb.out.below HBC.out) (fun b hb => by have h1 := hb.2; have h2 := HBC.out.size; omega) HC.out HP.out.2.2.1 hbl1 hbl2 r0 (hr0 ▸ HP.out.2.2.2 HAt.out)).mono ?_
          rintro e wc hret
          rw [hr0] at hret
          obtain ⟨Ac, cc, rfl, i1, i2, i3, i4, hEc, hbc⟩ := retC_ok hret
          have HEc := Lib.hid (And.intro i3 (And.intro i4 hEc))
          clear hEc i1 i2 i3 i4 hr0
          have HBc := Lib.hid (bthen HBCw.out hbc HBCw.out.size)
          have hzbc : wb.heap.size ≤ wc.heap.size := by have h1 := HBC.out.size; have h2 := hbc.size; omega
          have m0 : wc.cell? ⟨w1.heap.size, 0, none⟩ = some (.int .i64 t.terms) := (HBc.out.cell (p := ⟨w1.heap.size, 0, none⟩) (by show w1.heap.size < w9.heap.size; omega)).trans (HT9.out.cell 0)
          have m1 : wc.cell? ⟨w1.heap.size, 1, none⟩ = some (.int .i64 t.atom) := (HBc.out.cell (p := ⟨w1.heap.size, 1, none⟩) (by show w1.heap.size < w9.heap.size; omega)).trans (HT9.out.cell 1)
          have m2 : wc.cell? ⟨w1.heap.size, 2, none⟩ = some (.int .i64 t.opn) := (HBc.out.cell (p := ⟨w1.heap.size, 2, none⟩) (by show w1.heap.size < w9.heap.size; omega)).trans (HT9.out.cell 2)
          have m3 : wc.cell? ⟨w1.heap.size, 3, none⟩ = some (.int .i64 t.cls) := (HBc.out.cell (p := ⟨w1.heap.size, 3, none⟩) (by show w1.heap.size < w9.heap.size; omega)).trans (HT9.out.cell 3)
          have m4 : wc.cell? ⟨w1.heap.size, 4, none⟩ = some (.slice A1 t.levels.length c1) := (HBc.out.cell (p := ⟨w1.heap.size, 4, none⟩) (by show w1.heap.size < w9.heap.size; omega)).trans (HT9.out.cell 4)
          have m5 : wc.cell? ⟨w6.heap.size, 0, none⟩ = some (.int .i64 x.rule) := (HBc.out.cell (p := ⟨w6.heap.size, 0, none⟩) (by show w6.heap.size < w9.heap.size; omega)).trans (HX9.out.cell 0)
          have m6 : wc.cell? ⟨w6.heap.size, 1, none⟩ = some (.int .i64 x.term) := (HBc.out.cell (p := ⟨w6.heap.size, 1, none⟩) (by show w6.heap.size < w9.heap.size; omega)).trans (HX9.out.cell 1)
          have m7 : wc.cell? ⟨w6.heap.size, 2, none⟩ = some (.slice A6 x.kids.length c6) := (HBc.out.cell (p := ⟨w6.heap.size, 2, none⟩) (by show w6.heap.size < w9.heap.size; omega)).trans (HX9.out.cell 2)
          have hZc := (Blk'.new wb 41 #[.int .i64 0, .int .i64 0, .slice none 0 0]).below hbc (by simp)
          have HZc := Lib.hid hZc
          have zc0 : wc.cell? ⟨wb.heap.size, 0, none⟩ = some (.int .i64 0) := hZc.cell 0
          have zc1 : wc.cell? ⟨wb.heap.size, 1, none⟩ = some (.int .i64 0) := hZc.cell 1
          have zc2 : wc.cell? ⟨wb.heap.size, 2, none⟩ = some (.slice none 0 0) := hZc.cell 2
          have zf0 := hZc.frozen 0
          have zf1 := hZc.frozen 1
          have zf2 := hZc.frozen 2
          have zlt : wb.heap.size < wc.heap.size := hZc.lt
          have ne1 : ¬ wb.heap.size = w1.heap.size := by omega
          have ne2 : ¬ wb.heap.size = w6.heap.size := by omega
          have zge : w.heap.size ≤ wb.heap.size := by have h1 := HB9.out.size; omega
          clear hZc
          clear hret hbc
          refine hK.out _ _ ?htb3 (fun hHeld => ?rtb3)
          case htb3 => ((try dsimp only); go_keep)
          clear hK Kq
          try simp only [Act.put, List.setIfInBounds_toArray, List.set_cons_zero, List.set_cons_succ]
          refine take_run (i := 4) (v := ?vtb4) rfl (by kernel_rfl) (by kernel_rfl) (by kernel_rfl) (fun _ _ _ h => h) (by rfl) ?ytb4 (by assumption) ?rtb4
          case ytb4 => (intro w hSw; (try dsimp only at hSw); go_simp; try with_reducible rfl)
          try simp only [Act.put, List.setIfInBounds_toArray, List.set_cons_zero, List.set_cons_succ]
          refine take_run (i := 5) (v := ?vtb5) rfl (by kernel_rfl) (by kernel_rfl) (by kernel_rfl) (fun _ _ _ h => h) (by rfl) ?ytb5 (by assumption) ?rtb5
          case ytb5 => (intro w hSw; (try dsimp only at hSw); go_simp; try with_reducible rfl)
          try simp only [Act.put, List.setIfInBounds_toArray, List.set_cons_zero, List.set_cons_succ]
          refine take_run (i := 6) (v := ?vtb6) rfl (by kernel_rfl) (by kernel_rfl) (by kernel_rfl) (fun _ _ _ h => h) (by rfl) ?ytb6 (by assumption) ?rtb6
          case ytb6 => (intro w hSw; (try dsimp only at hSw); go_simp; try with_reducible rfl)
          try simp only [Act.put, List.setIfInBounds_toArray, List.set_cons_zero, List.set_cons_succ]
          refine take_run (i := 7) (v := ?vtb7) rfl (by kernel_rfl) (by kernel_rfl) (by kernel_rfl) (fun _ _ _ h => h) (by rfl) ?ytb7 (by assumption) ?rtb7
          case ytb7 => (intro w hSw; (try dsimp only at hSw); go_simp; try with_reducible rfl)
          try simp only [Act.put, List.setIfInBounds_toArray, List.set_cons_zero, List.set_cons_succ]
          refine take_call (i := 9) rfl (by kernel_rfl) (by rfl) (fun Kq hK => ?_)
          go_simp
          refine hK.out _ _ ?htb9 (fun hHeld => ?rtb9)
          case htb9 => ((try dsimp only); go_keep)
          clear hK Kq
          try simp only [Act.put, List.setIfInBounds_toArray, List.set_cons_zero, List.set_cons_succ]
          refine take_run (i := 10) (v := ?vtb10) rfl (by kernel_rfl) (by kernel_rfl) (by kernel_rfl) (fun _ _ _ h => h) (by rfl) ?ytb10 (by assumption) ?rtb10
          case ytb10 => (intro w hSw; (try dsimp only at hSw); go_simp; try with_reducible rfl)
          try simp only [Act.put, List.setIfInBounds_toArray, List.set_cons_zero, List.set_cons_succ]
          refine take_run (i := 11) (v := ?vtb11) rfl (by kernel_rfl) (by kernel_rfl) (by kernel_rfl) (fun _ _ _ h => h) (by rfl) ?ytb11 (by assumption) ?rtb11
          case ytb11 => (intro w hSw; (try dsimp only at hSw); go_simp; try with_reducible rfl)
          try simp only [Act.put, List.setIfInBounds_toArray, List.set_cons_zero, List.set_cons_succ]
          refine wpAnyH_done (by kernel_rfl) ?_ _
          refine NoPanic.normal ?_
          generalize hwF : World.setCell _ _ _ = wF
          have hKF : Kept (fun b => b = wb.heap.size) wc wF := by rw [← hwF]; exact (((Kept.refl (fun b => b = wb.heap.size) wc).setCell (p := ⟨wb.heap.size, 0, none⟩) (.inl rfl) _).setCell (p := ⟨wb.heap.size, 1, none⟩) (.inl rfl) _).setCell (p := ⟨wb.heap.size, 2, none⟩) (.inl rfl) _
          have hZF : Blk' wF wb.heap.size 41 #[.int .i64 x.rule, .int .i64 x.term, .slice Ac x.kids.length cc] := by rw [← hwF]; exact ((HZc.out.set_ 0 _).set_ 1 _).set_ 2 _
          have hz6 : w6.heap.size < wb.heap.size := by omega
          have HBF := Lib.hid ((HB9.out.trans (HBc.out.mono (show w.heap.size ≤ w9.heap.size from HB9.out.size))).trans (hKF.to_below (B := w.heap.size) (fun b (hb : b = wb.heap.size) => by omega) (by have h1 := HB9.out.size; omega)))
          have hXF := (HX9.out.below HBc.out HX9.out.lt).kept hKF (by omega)
          have HEx := Lib.hid ((HE9.out.2.below HBc.out).kept hKF (fun b hb (e : b = wb.heap.size) => by have h1 := hb.2; omega))
          have HEy := Lib.hid (HEc.out.2.2.kept hKF (fun b hb (e : b = wb.heap.size) => by have h1 := hb.1; simp at h1; omega))
          have f0 : wF.cell? ⟨w6.heap.size, 0, none⟩ = some (.int .i64 x.rule) := hXF.cell 0
          have f1 : wF.cell? ⟨w6.heap.size, 1, none⟩ = some (.int .i64 x.term) := hXF.cell 1
          have f2 : wF.cell? ⟨w6.heap.size, 2, none⟩ = some (.slice A6 x.kids.length c6) := hXF.cell 2
          have h0 : wF.cell? ⟨wb.heap.size, 0, none⟩ = some (.int .i64 x.rule) := hZF.cell 0
          have h1 : wF.cell? ⟨wb.heap.size, 1, none⟩ = some (.int .i64 x.term) := hZF.cell 1
          have h2 : wF.cell? ⟨wb.heap.size, 2, none⟩ = some (.slice Ac x.kids.length cc) := hZF.cell 2
          clear hwF hKF hZF hXF
          go_wp2_with fail
          refine (sameTreeK_any _ _ x x A6 Ac c6 cc wF ⟨hx1, hx2⟩ ⟨HEc.out.1, HEc.out.2.1⟩ HEx.out HEy.out).mono ?_
          rintro e wG ⟨rfl, hbG⟩
          rw [show decide (x = x) = true from decide_eq_true rfl]
          have HBG := Lib.hid (bthen HBF.out hbG HBF.out.size)
          clear hbG f0 f1 f2 h0 h1 h2
          go_wp2
          go_ret
          exact ⟨rfl, HBG.out⟩
      case twotp2 =>
        go_simp
        refine hK.out _ _ ?hta8 (fun hHeld => ?rta8)
        case hta8 => ((try dsimp only); go_keep)
        clear hK Kq
        try simp only [Act.put, List.setIfInBounds_toArray, List.set_cons_zero, List.set_cons_succ]
        refine take_call (i := 2) rfl (by kernel_rfl) (by rfl) (fun Kq hK => ?_)
        go_simp
        go_at_call 30
        have HBY := Lib.hid ((below_drew w9).alloc (Nat.le_refl _) (.cells #[.int .i64 0, .int .i64 0, .slice none 0 0] 41))
        refine (yield_any x A6 c6 _ _ (fun b hb => by have h1 := hb.2; have h2 := HBY.out.size; omega) HI.out.1 HI.out.2 hx1 hx2 (HE9.out.2.below HBY.out) (by have := HYl.out; omega)).mono ?_
        rintro e wb ⟨vb, rfl, hOb, hbb⟩
        obtain ⟨Ab, cb, rfl, hbl1, hbl2, _⟩ := hOb.form
        have HBb := Lib.hid (bthen HBY.out hbb HBY.out.size)
        have HOb := Lib.hid hOb.vl.els.2.2.2
        have hzb : w9.heap.size ≤ wb.heap.size := HBb.out.size
        have n0 : wb.cell? ⟨w1.heap.size, 0, none⟩ = some (.int .i64 t.terms) := (HBb.out.cell (p := ⟨w1.heap.size, 0, none⟩) (by show w1.heap.size < w9.heap.size; omega)).trans (HT9.out.cell 0)
        have n1 : wb.cell? ⟨w1.heap.size, 1, none⟩ = some (.int .i64 t.atom) := (HBb.out.cell (p := ⟨w1.heap.size, 1, none⟩) (by show w1.heap.size < w9.heap.size; omega)).trans (HT9.out.cell 1)
        have n2 : wb.cell? ⟨w1.heap.size, 2, none⟩ = some (.int .i64 t.opn) := (HBb.out.cell (p := ⟨w1.heap.size, 2, none⟩) (by show w1.heap.size < w9.heap.size; omega)).trans (HT9.out.cell 2)
        have n3 : wb.cell? ⟨w1.heap.size, 3, none⟩ = some (.int .i64 t.cls) := (HBb.out.cell (p := ⟨w1.heap.size, 3, none⟩) (by show w1.heap.size < w9.heap.size; omega)).trans (HT9.out.cell 3)
        have n4 : wb.cell? ⟨w1.heap.size, 4, none⟩ = some (.slice A1 t.levels.length c1) := (HBb.out.cell (p := ⟨w1.heap.size, 4, none⟩) (by show w1.heap.size < w9.heap.size; omega)).trans (HT9.out.cell 4)
        have n5 : wb.cell? ⟨w6.heap.size, 0, none⟩ = some (.int .i64 x.rule) := (HBb.out.cell (p := ⟨w6.heap.size, 0, none⟩) (by show w6.heap.size < w9.heap.size; omega)).trans (HX9.out.cell 0)
        have n6 : wb.cell? ⟨w6.heap.size, 1, none⟩ = some (.int .i64 x.term) := (HBb.out.cell (p := ⟨w6.heap.size, 1, none⟩) (by show w6.heap.size < w9.heap.size; omega)).trans (HX9.out.cell 1)
        have n7 : wb.cell? ⟨w6.heap.size, 2, none⟩ = some (.slice A6 x.kids.length c6) := (HBb.out.cell (p := ⟨w6.heap.size, 2, none⟩) (by show w6.heap.size < w9.heap.size; omega)).trans (HX9.out.cell 2)
        have hZb := (Blk'.new' (g := w9.heap.size) w9.drew 41 #[.int .i64 0, .int .i64 0, .slice none 0 0] rfl).below hbb (by show w9.heap.size < (w9.drew.alloc _).heap.size; simp)
        have HZb := Lib.hid hZb
        clear hZb hOb hbb
        refine hK.out _ _ ?hta2 (fun hHeld => ?rta2)
        case hta2 => ((try dsimp only); go_keep)
        clear hK Kq
        try simp only [Act.put, List.setIfInBounds_toArray, List.set_cons_zero, List.set_cons_succ]
        refine take_call (i := 3) rfl (by kernel_rfl) (by rfl) (fun Kq hK => ?_)
        go_simp
        go_at_call 14
        have HBC := Lib.hid (Below.refl wb.heap.size wb)
        have HBCw := Lib.hid (bthen HBb.out HBC.out HBb.out.size)
        obtain ⟨r0, hr0⟩ : ∃ r0, r0 = Res.ok x (yieldT x).length := ⟨_, rfl⟩
        refine (climb_any t (yieldT x) A1 Ab c1 cb _ _ _ H64.out hl1 hl2 (HE9.out.1.below HBCw.out) (fun b hb => by have h1 := hb.2; have h2 := HBCw.out.size; omega) (HOb.out.below HBC.out) (fun b hb => by have h1 := hb.2; have h2 := HBC.out.size; omega) HC.out HP.out.2.2.1 hbl1 hbl2 r0 (hr0 ▸ HP.out.2.2.2 HAt.out)).mono ?_
        rintro e wc hret
        rw [hr0] at hret
        obtain ⟨Ac, cc, rfl, i1, i2, i3, i4, hEc, hbc⟩ := retC_ok hret
        have HEc := Lib.hid (And.intro i3 (And.intro i4 hEc))
        clear hEc i1 i2 i3 i4 hr0
        have HBc := Lib.hid (bthen HBCw.out hbc HBCw.out.size)
        have hzbc : wb.heap.size ≤ wc.heap.size := by have h1 := HBC.out.size; have h2 := hbc.size; omega
        have m0 : wc.cell? ⟨w1.heap.size, 0, none⟩ = some (.int .i64 t.terms) := (HBc.out.cell (p := ⟨w1.heap.size, 0, none⟩) (by show w1.heap.size < w9.heap.size; omega)).trans (HT9.out.cell 0)
        have m1 : wc.cell? ⟨w1.heap.size, 1, none⟩ = some (.int .i64 t.atom) := (HBc.out.cell (p := ⟨w1.heap.size, 1, none⟩) (by show w1.heap.size < w9.heap.size; omega)).trans (HT9.out.cell 1)
        have m2 : wc.cell? ⟨w1.heap.size, 2, none⟩ = some (.int .i64 t.opn) := (HBc.out.cell (p := ⟨w1.heap.size, 2, none⟩) (by show w1.heap.size < w9.heap.size; omega)).trans (HT9.out.cell 2)
        have m3 : wc.cell? ⟨w1.heap.size, 3, none⟩ = some (.int .i64 t.cls) := (HBc.out.cell (p := ⟨w1.heap.size, 3, none⟩) (by show w1.heap.size < w9.heap.size; omega)).trans (HT9.out.cell 3)
        have m4 : wc.cell? ⟨w1.heap.size, 4, none⟩ = some (.slice A1 t.levels.length c1) := (HBc.out.cell (p := ⟨w1.heap.size, 4, none⟩) (by show w1.heap.size < w9.heap.size; omega)).trans (HT9.out.cell 4)
        have m5 : wc.cell? ⟨w6.heap.size, 0, none⟩ = some (.int .i64 x.rule) := (HBc.out.cell (p := ⟨w6.heap.size, 0, none⟩) (by show w6.heap.size < w9.heap.size; omega)).trans (HX9.out.cell 0)
        have m6 : wc.cell? ⟨w6.heap.size, 1, none⟩ = some (.int .i64 x.term) := (HBc.out.cell (p := ⟨w6.heap.size, 1, none⟩) (by show w6.heap.size < w9.heap.size; omega)).trans (HX9.out.cell 1)
        have m7 : wc.cell? ⟨w6.heap.size, 2, none⟩ = some (.slice A6 x.kids.length c6) := (HBc.out.cell (p := ⟨w6.heap.size, 2, none⟩) (by show w6.heap.size < w9.heap.size; omega)).trans (HX9.out.cell 2)
        have hZc := HZb.out.below hbc HZb.out.lt
        have HZc := Lib.hid hZc
        have zc0 : wc.cell? ⟨w9.heap.size, 0, none⟩ = some (.int .i64 0) := hZc.cell 0
        have zc1 : wc.cell? ⟨w9.heap.size, 1, none⟩ = some (.int .i64 0) := hZc.cell 1
        have zc2 : wc.cell? ⟨w9.heap.size, 2, none⟩ = some (.slice none 0 0) := hZc.cell 2
        have zf0 := hZc.frozen 0
        have zf1 := hZc.frozen 1
        have zf2 := hZc.frozen 2
        have zlt : w9.heap.size < wc.heap.size := hZc.lt
        have ne1 : ¬ w9.heap.size = w1.heap.size := by omega
        have ne2 : ¬ w9.heap.size = w6.heap.size := by omega
        have zge : w.heap.size ≤ w9.heap.size := by have h1 := HB9.out.size; omega
        clear hZc
        clear hret hbc
        refine hK.out _ _ ?hta3 (fun hHeld => ?rta3)
        case hta3 => ((try dsimp only); go_keep)
        clear hK Kq
        try simp only [Act.put, List.setIfInBounds_toArray, List.set_cons_zero, List.set_cons_succ]
        refine take_run (i := 4) (v := ?vta4) rfl (by kernel_rfl) (by kernel_rfl) (by kernel_rfl) (fun _ _ _ h => h) (by rfl) ?yta4 (by assumption) ?rta4
        case yta4 => (intro w hSw; (try dsimp only at hSw); go_simp; try with_reducible rfl)
        try simp only [Act.put, List.setIfInBounds_toArray, List.set_cons_zero, List.set_cons_succ]
        refine take_run (i := 5) (v := ?vta5) rfl (by kernel_rfl) (by kernel_rfl) (by kernel_rfl) (fun _ _ _ h => h) (by rfl) ?yta5 (by assumption) ?rta5
        case yta5 => (intro w hSw; (try dsimp only at hSw); go_simp; try with_reducible rfl)
        try simp only [Act.put, List.setIfInBounds_toArray, List.set_cons_zero, List.set_cons_succ]
        refine take_run (i := 6) (v := ?vta6) rfl (by kernel_rfl) (by kernel_rfl) (by kernel_rfl) (fun _ _ _ h => h) (by rfl) ?yta6 (by assumption) ?rta6
        case yta6 => (intro w hSw; (try dsimp only at hSw); go_simp; try with_reducible rfl)
        try simp only [Act.put, List.setIfInBounds_toArray, List.set_cons_zero, List.set_cons_succ]
        refine take_run (i := 7) (v := ?vta7) rfl (by kernel_rfl) (by kernel_rfl) (by kernel_rfl) (fun _ _ _ h => h) (by rfl) ?yta7 (by assumption) ?rta7
        case yta7 => (intro w hSw; (try dsimp only at hSw); go_simp; try with_reducible rfl)
        try simp only [Act.put, List.setIfInBounds_toArray, List.set_cons_zero, List.set_cons_succ]
        refine take_call (i := 9) rfl (by kernel_rfl) (by rfl) (fun Kq hK => ?_)
        go_simp
        refine hK.out _ _ ?hta9 (fun hHeld => ?rta9)
        case hta9 => ((try dsimp only); go_keep)
        clear hK Kq
        try simp only [Act.put, List.setIfInBounds_toArray, List.set_cons_zero, List.set_cons_succ]
        refine take_run (i := 10) (v := ?vta10) rfl (by kernel_rfl) (by kernel_rfl) (by kernel_rfl) (fun _ _ _ h => h) (by rfl) ?yta10 (by assumption) ?rta10
        case yta10 => (intro w hSw; (try dsimp only at hSw); go_simp; try with_reducible rfl)
        try simp only [Act.put, List.setIfInBounds_toArray, List.set_cons_zero, List.set_cons_succ]
        refine take_run (i := 11) (v := ?vta11) rfl (by kernel_rfl) (by kernel_rfl) (by kernel_rfl) (fun _ _ _ h => h) (by rfl) ?yta11 (by assumption) ?rta11
        case yta11 => (intro w hSw; (try dsimp only at hSw); go_simp; try with_reducible rfl)
        try simp only [Act.put, List.setIfInBounds_toArray, List.set_cons_zero, List.set_cons_succ]
        refine wpAnyH_done (by kernel_rfl) ?_ _
        refine NoPanic.normal ?_
        generalize hwF : World.setCell _ _ _ = wF
        have hKF : Kept (fun b => b = w9.heap.size) wc wF := by rw [← hwF]; exact (((Kept.refl (fun b => b = w9.heap.size) wc).setCell (p := ⟨w9.heap.size, 0, none⟩) (.inl rfl) _).setCell (p := ⟨w9.heap.size, 1, none⟩) (.inl rfl) _).setCell (p := ⟨w9.heap.size, 2, none⟩) (.inl rfl) _
        have hZF : Blk' wF w9.heap.size 41 #[.int .i64 x.rule, .int .i64 x.term, .slice Ac x.kids.length cc] := by rw [← hwF]; exact ((HZc.out.set_ 0 _).set_ 1 _).set_ 2 _
        have hz6 : w6.heap.size < w9.heap.size := by omega
        have HBF := Lib.hid ((HB9.out.trans (HBc.out.mono (show w.heap.size ≤ w9.heap.size from HB9.out.size))).trans (hKF.to_below (B := w.heap.size) (fun b (hb : b = w9.heap.size) => by omega) (by have h1 := HB9.out.size; omega)))
        have hXF := (HX9.out.below HBc.out HX9.out.lt).kept hKF (by omega)
        have HEx := Lib.hid ((HE9.out.2.below HBc.out).kept hKF (fun b hb (e : b = w9.heap.size) => by have h1 := hb.2; omega))
        have HEy := Lib.hid (HEc.out.2.2.kept hKF (fun b hb (e : b = w9.heap.size) => by have h1 := hb.1; have h2 : wb.heap.size ≤ b := hb.1; have h5 := HZb.out.lt; omega))
        have f0 : wF.cell? ⟨w6.heap.size, 0, none⟩ = some (.int .i64 x.rule) := hXF.cell 0
        have f1 : wF.cell? ⟨w6.heap.size, 1, none⟩ = some (.int .i64 x.term) := hXF.cell 1
        have f2 : wF.cell? ⟨w6.heap.size, 2, none⟩ = some (.slice A6 x.kids.length c6) := hXF.cell 2
        have h0 : wF.cell? ⟨w9.heap.size, 0, none⟩ = some (.int .i64 x.rule) := hZF.cell 0
        have h1 : wF.cell? ⟨w9.heap.size, 1, none⟩ = some (.int .i64 x.term) := hZF.cell 1
        have h2 : wF.cell? ⟨w9.heap.size, 2, none⟩ = some (.slice Ac x.kids.length cc) := hZF.cell 2
        clear hwF hKF hZF hXF
        go_wp2_with fail
        refine (sameTreeK_any _ _ x x A6 Ac c6 cc wF ⟨hx1, hx2⟩ ⟨HEc.out.1, HEc.out.2.1⟩ HEx.out HEy.out).mono ?_
        rintro e wG ⟨rfl, hbG⟩
        rw [show decide (x = x) = true from decide_eq_true rfl]
        have HBG := Lib.hid (bthen HBF.out hbG HBF.out.size)
        clear hbG f0 f1 f2 h0 h1 h2
        go_wp2
        go_ret
        exact ⟨rfl, HBG.out⟩

theorem precAllowedOnly_row (l ch : List Int) (v0 v1 : Value) (W : World) (h0 : Vl W (OldS W) l v0) (h1 : Vl W (OldS W) ch v1) :
    Calls Try.prog 6 #[v0, v1] W fun e W' => e = .returned (.bool true) ∧ Below W.heap.size W W' := by
  obtain ⟨A, c, rfl, k1, k2, hA⟩ := h0.slice
  obtain ⟨B, d, rfl, k3, k4, hB⟩ := h1.slice
  exact precAllowedOnly_any l ch A B c d (OldS W) (OldS W) W k1 k2 hA (fun b h => h) k3 k4 hB (fun b h => h)
end Go.Proofs.Ytnphbbhnfkjlcaa
