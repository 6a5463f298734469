/- Contracts: leftrec.There and Back of a valid tree, where nothing is wrong. -/
import Derived.Test.YtecofoilghdedaaQLrBk
import Derived.Test.YtecofoilghdedaaQLrSize
namespace Go.Proofs.Ytecofoilghdedaa
open Go.RowKit
set_option linter.unusedVariables false

def RetLE (t : Tree) (w : World) (e : Ending) (w' : World) : Prop :=
  ∃ (A : Option Addr) (c : Nat), e = .returned (.tuple #[.agg #[.int .i64 t.rule, .int .i64 t.term, .slice A t.kids.length c], .int .i64 0]) ∧ I64 t.rule ∧ I64 t.term ∧ t.kids.length ≤ c ∧ c ≤ 9223372036854775807 ∧ Els w' (fun b => w.heap.size ≤ b ∧ b < w'.heap.size) t.kids A ∧ Below w.heap.size w w'

set_option maxRecDepth 100000 in
set_option maxHeartbeats 4000000 in
theorem thereP_ok (m n : Nat) (s0 : Int) (rs : List Rule) (A : Option Addr) (c : Nat) (Sr S : Nat → Prop) (t : Tree) (s : Sym) (B : Option Addr) (d : Nat) (w : World) (hck : checkI ⟨(m : Int), (n : Int), s0, rs⟩ = 0) (hok : StrOk ⟨(m : Int), (n : Int), s0, rs⟩ n) (hlc : rs.length ≤ c) (hc : c ≤ 9223372036854775807) (hA : Els w Sr rs A) (hSr : ∀ b, Sr b → b < w.heap.size)
    (hr : I64 t.rule) (ht : I64 t.term) (hld : t.kids.length ≤ d) (hd : d ≤ 9223372036854775807) (hB : Els w S t.kids B) (hS : ∀ b, S b → b < w.heap.size) (h0 : treeE (⟨(m : Int), (n : Int), s0, rs⟩ : Gram) t = 0) (hvt : vt (⟨(m : Int), (n : Int), s0, rs⟩ : Gram) t s) (hn5 : nodesT (thT (⟨(m : Int), (n : Int), s0, rs⟩ : Gram) n t) ≤ 5000) :
    Calls Try.prog 12 #[.agg #[.int .i64 (m : Int), .int .i64 (n : Int), .int .i64 s0, .slice A rs.length c], .agg #[.int .i64 t.rule, .int .i64 t.term, .slice B t.kids.length d]] w (RetLE (thT (⟨(m : Int), (n : Int), s0, rs⟩ : Gram) n t) w) := by
  have hvg := validG_of hck
  have HCk := Lib.hid hck
  have HV := Lib.hid hvg
  have HOk := Lib.hid hok
  have HA := Lib.hid hA
  have HSr := Lib.hid hSr
  have HS := Lib.hid hS
  have HB := Lib.hid hB
  have HRT := Lib.hid (And.intro hr ht)
  have HX := Lib.hid (And.intro h0 (And.intro hvt hn5))
  obtain ⟨tl, htl⟩ : ∃ tl, tl = t.kids.length := ⟨_, rfl⟩
  have HTl := Lib.hid htl
  rw [← htl] at hld
  obtain ⟨G2, hG2⟩ : ∃ b, b = w.heap.size := ⟨_, rfl⟩
  obtain ⟨T3, hT3⟩ : ∃ b, b = w.heap.size + 1 := ⟨_, rfl⟩
  obtain ⟨R4, hR4⟩ : ∃ b, b = w.heap.size + 1 + 1 := ⟨_, rfl⟩
  obtain ⟨w1, hw1⟩ : ∃ w1 : World, w1 = ((w.alloc (.cells #[.int .i64 (m : Int), .int .i64 (n : Int), .int .i64 s0, .slice A rs.length c] 25)).alloc (.cells #[.int .i64 t.rule, .int .i64 t.term, .slice B tl d] 47)).alloc (.cells #[.int .i64 0, .int .i64 0, .slice none 0 0] 47) := ⟨_, rfl⟩
  have hb1 : Below w.heap.size w w1 := by rw [hw1]; exact (((Below.refl _ _).alloc (Nat.le_refl _) _).alloc (by simp) _).alloc (by simp; omega) _
  have HG1 : Hid (Blk' w1 G2 25 #[.int .i64 (m : Int), .int .i64 (n : Int), .int .i64 s0, .slice A rs.length c]) := Lib.hid (by rw [hw1, hG2]; exact ((Blk'.new _ _ _).alloc _).alloc _)
  have HT1 : Hid (Blk' w1 T3 47 #[.int .i64 t.rule, .int .i64 t.term, .slice B tl d]) := Lib.hid (by rw [hw1]; exact (Blk'.new' _ _ _ (by rw [hT3]; simp)).alloc _)
  have HR1 : Hid (Blk' w1 R4 47 #[.int .i64 0, .int .i64 0, .slice none 0 0]) := Lib.hid (by rw [hw1]; exact Blk'.new' _ _ _ (by rw [hR4]; simp))
  have HZ : Hid (G2 = w.heap.size ∧ T3 = w.heap.size + 1 ∧ R4 = w.heap.size + 2 ∧ w1.heap.size = w.heap.size + 3) := Lib.hid ⟨hG2, hT3, hR4, by rw [hw1]; simp⟩
  have HB1 := Lib.hid hb1
  have HW1 := Lib.hid hw1
  have HA1 := Lib.hid (HA.out.below hb1)
  clear hb1 hw1 hck hok hA hSr hB hS hr ht hvg h0 hvt hn5
  rw [← htl]
  clear htl
  go_enter Try.func12, Try.ntmps12
  go_upto_region 1 with (fail)
  rw [← HW1.out, ← hR4, ← hT3, ← hG2]
  clear HW1 hR4 hT3 hG2
  have g0 : w1.cell? ⟨G2, 0, none⟩ = some (.int .i64 (m : Int)) := HG1.out.cell 0
  have g1 : w1.cell? ⟨G2, 1, none⟩ = some (.int .i64 (n : Int)) := HG1.out.cell 1
  have g2 : w1.cell? ⟨G2, 2, none⟩ = some (.int .i64 s0) := HG1.out.cell 2
  have g3 : w1.cell? ⟨G2, 3, none⟩ = some (.slice A rs.length c) := HG1.out.cell 3
  have zG : G2 < w1.heap.size := HG1.out.lt
  go_wp2_with fail
  refine (leftOf_any ⟨(m : Int), (n : Int), s0, rs⟩ m n A c Sr w1 rfl rfl HCk.out hlc hc HA1.out (fun b hb => by have := HSr.out b hb; have := HB1.out.size; omega)).mono ?_
  rintro e w2 (⟨k, hbad, _⟩ | ⟨_, P, gT, A1, A2, c1, c2, rfl, hP0, hPb, q1, q2, hE1, q3, q4, hE2, hgT, hTb, hb2⟩)
  · exact absurd hbad HOk.out.not
  have HPM : Hid (PlanM w2 P gT ⟨(m : Int), (n : Int), s0, rs⟩ n A A1 A2 c c1 c2 Sr (fun b => w1.heap.size ≤ b ∧ b < w2.heap.size)) := Lib.hid ⟨hPb, HA1.out.below hb2, hE1, hE2, hTb⟩
  have HQ := Lib.hid (And.intro q1 (And.intro q2 (And.intro q3 q4)))
  have HB2 := Lib.hid (bthen HB1.out hb2 HB1.out.size)
  have HG2 := Lib.hid (HG1.out.below hb2 HG1.out.lt)
  have HT2 := Lib.hid (HT1.out.below hb2 HT1.out.lt)
  have HR2 := Lib.hid (HR1.out.below hb2 HR1.out.lt)
  have HBk := Lib.hid (HB.out.below HB2.out)
  have HA2 := Lib.hid (HA1.out.below hb2)
  have HZ2 : Hid (w1.heap.size ≤ w2.heap.size) := Lib.hid hb2.size
  clear hP0 hPb hE1 hE2 hgT hTb q1 q2 q3 q4 hb2 g0 g1 g2 g3 zG
  have g0 : w2.cell? ⟨G2, 0, none⟩ = some (.int .i64 (m : Int)) := HG2.out.cell 0
  have g1 : w2.cell? ⟨G2, 1, none⟩ = some (.int .i64 (n : Int)) := HG2.out.cell 1
  have g2 : w2.cell? ⟨G2, 2, none⟩ = some (.int .i64 s0) := HG2.out.cell 2
  have g3 : w2.cell? ⟨G2, 3, none⟩ = some (.slice A rs.length c) := HG2.out.cell 3
  have zG : G2 < w2.heap.size := HG2.out.lt
  have t0 : w2.cell? ⟨T3, 0, none⟩ = some (.int .i64 t.rule) := HT2.out.cell 0
  have t1 : w2.cell? ⟨T3, 1, none⟩ = some (.int .i64 t.term) := HT2.out.cell 1
  have t2 : w2.cell? ⟨T3, 2, none⟩ = some (.slice B tl d) := HT2.out.cell 2
  have zT : T3 < w2.heap.size := HT2.out.lt
  go_wp2_with fail
  rw [HTl.out]
  refine (gtree_any ⟨(m : Int), (n : Int), s0, rs⟩ A c Sr S t B d w2 (by have := HV.out.len; dsimp only at this ⊢; omega) (fun q hq => by have := (HV.out.rules q hq).2.2.1; omega) HA2.out (fun b hb => by have := HSr.out b hb; have := HB2.out.size; omega) (fun b hb => by have := HS.out b hb; have := HB2.out.size; omega) HRT.out.1 HRT.out.2 (by rw [← HTl.out]; exact hld) hd HBk.out).mono ?_
  rintro e w3 ⟨rfl, hb3⟩
  rw [HX.out.1, ← HTl.out]
  have HB3 := Lib.hid (bthen HB2.out hb3 HB2.out.size)
  have HPM3 := Lib.hid (HPM.out.below hb3)
  have HR3 := Lib.hid (HR2.out.below hb3 HR2.out.lt)
  have HT3 := Lib.hid (HT2.out.below hb3 HT2.out.lt)
  have HBk3 := Lib.hid (HBk.out.below hb3)
  have HZ3 : Hid (w2.heap.size ≤ w3.heap.size) := Lib.hid hb3.size
  clear hb3 g0 g1 g2 g3 zG t0 t1 t2 zT
  have t0 : w3.cell? ⟨T3, 0, none⟩ = some (.int .i64 t.rule) := HT3.out.cell 0
  have t1 : w3.cell? ⟨T3, 1, none⟩ = some (.int .i64 t.term) := HT3.out.cell 1
  have t2 : w3.cell? ⟨T3, 2, none⟩ = some (.slice B tl d) := HT3.out.cell 2
  have zT : T3 < w3.heap.size := HT3.out.lt
  go_wp2_with fail
  rw [HTl.out]
  refine (there_any HV.out rfl hlc hc (nodesT t) t s (Nat.le_refl _) HX.out.2.1 w3 B d S HPM3.out HRT.out.1 HRT.out.2 (by rw [← HTl.out]; exact hld) hd HBk3.out (fun b hb => by have := HS.out b hb; have := HB3.out.size; omega)).mono ?_
  rintro e w4 ⟨A', c', rfl, j1, j2, j3, j4, hE4, hb4⟩
  obtain ⟨y, hy⟩ : ∃ y, y = thT ⟨(m : Int), (n : Int), s0, rs⟩ n t := ⟨_, rfl⟩
  have HY := Lib.hid hy
  rw [← hy] at j1 j2 j3 hE4
  rw [← hy]
  obtain ⟨yl, hyl⟩ : ∃ yl, yl = y.kids.length := ⟨_, rfl⟩
  have HYl := Lib.hid hyl
  rw [← hyl] at j3
  rw [← hyl]
  have HJ := Lib.hid (And.intro j1 (And.intro j2 (And.intro j3 j4)))
  have HB4 := Lib.hid (bthen HB3.out hb4 HB3.out.size)
  have HR4 := Lib.hid (HR3.out.below hb4 HR3.out.lt)
  obtain ⟨w5, hw5⟩ : ∃ w5 : World, w5 = w4.alloc (.cells #[.int .i64 y.rule, .int .i64 y.term, .slice A' yl c'] 47) := ⟨_, rfl⟩
  have HW5 := Lib.hid hw5
  have hb5 : Below w4.heap.size w4 w5 := by rw [hw5]; exact (Below.refl _ _).alloc (Nat.le_refl _) _
  have HO5 : Hid (Blk' w5 w4.heap.size 47 #[.int .i64 y.rule, .int .i64 y.term, .slice A' yl c']) := Lib.hid (by rw [hw5]; exact Blk'.new _ _ _)
  have HB5 := Lib.hid (bthen HB4.out hb5 HB4.out.size)
  have HR5 := Lib.hid (HR4.out.below hb5 HR4.out.lt)
  have HE5 := Lib.hid (hE4.below hb5)
  have HZ4 : Hid (w3.heap.size ≤ w4.heap.size ∧ w4.heap.size < w5.heap.size) := Lib.hid ⟨hb4.size, by rw [hw5]; simp⟩
  clear hw5 hb5 hb4 hE4 j1 j2 j3 hy hyl t0 t1 t2 zT
  go_upto_region 8 with (fail)
  rw [← HW5.out]
  have o0 : w5.cell? ⟨w4.heap.size, 0, none⟩ = some (.int .i64 y.rule) := HO5.out.cell 0
  have o1 : w5.cell? ⟨w4.heap.size, 1, none⟩ = some (.int .i64 y.term) := HO5.out.cell 1
  have o2 : w5.cell? ⟨w4.heap.size, 2, none⟩ = some (.slice A' yl c') := HO5.out.cell 2
  have zO : w4.heap.size < w5.heap.size := HO5.out.lt
  clear HW5
  have HN5 : Hid (nodesT y ≤ 5000) := Lib.hid (by rw [HY.out]; exact HX.out.2.2)
  go_wp2_with fail
  rw [HYl.out]
  refine (size_any (nodesT y) y (Nat.le_refl _) (by have := HN5.out; omega) w5 A' c' _ (by rw [← HYl.out]; exact HJ.out.2.2.1) j4 HE5.out (fun b hb => by have := hb.2; have := HZ4.out; omega)).mono ?_
  rintro e w6 ⟨rfl, hb6⟩
  rw [← HYl.out]
  have HB6 := Lib.hid (bthen HB5.out hb6 HB5.out.size)
  have HR6 := Lib.hid (HR5.out.below hb6 HR5.out.lt)
  have HO6 := Lib.hid (HO5.out.below hb6 HO5.out.lt)
  have HE6 := Lib.hid (HE5.out.below hb6)
  have HZ6 : Hid (w5.heap.size ≤ w6.heap.size) := Lib.hid hb6.size
  obtain ⟨yn, hyn⟩ : ∃ yn, yn = nodesT y := ⟨_, rfl⟩
  rw [← hyn]
  have hyn5 : ¬ (5000 : Int) < (yn : Int) := by have := HN5.out; omega
  clear hb6 hyn o0 o1 o2 zO
  have o0 : w6.cell? ⟨w4.heap.size, 0, none⟩ = some (.int .i64 y.rule) := HO6.out.cell 0
  have o1 : w6.cell? ⟨w4.heap.size, 1, none⟩ = some (.int .i64 y.term) := HO6.out.cell 1
  have o2 : w6.cell? ⟨w4.heap.size, 2, none⟩ = some (.slice A' yl c') := HO6.out.cell 2
  have zO : w4.heap.size < w6.heap.size := HO6.out.lt
  have q0 := HR6.out.cell 0
  have q1 := HR6.out.cell 1
  have q2 := HR6.out.cell 2
  have f0 := HR6.out.frozen 0
  have f1 := HR6.out.frozen 1
  have f2 := HR6.out.frozen 2
  have zR := HR6.out.lt
  simp at q0 q1 q2
  go_wp2_with fail
  generalize hwF : World.setCell _ _ _ = wF
  obtain ⟨hRF, kF⟩ := set3 HR6.out (.int .i64 y.rule) (.int .i64 y.term) (.slice A' yl c')
  rw [hwF] at hRF kF
  have u0 : wF.cell? ⟨R4, 0, none⟩ = some (.int .i64 y.rule) := hRF.cell 0
  have u1 : wF.cell? ⟨R4, 1, none⟩ = some (.int .i64 y.term) := hRF.cell 1
  have u2 : wF.cell? ⟨R4, 2, none⟩ = some (.slice A' yl c') := hRF.cell 2
  have hz := HZ.out
  have hz2 := HZ2.out
  have hz3 := HZ3.out
  refine bodyPost_ret (v := .tuple #[.agg #[.int .i64 y.rule, .int .i64 y.term, .slice A' yl c'], .int .i64 0]) (by simp [results, Try.results12, go_sem, u0, u1, u2]) rfl ?_
  rw [← HY.out]
  exact ⟨A', c', by rw [HYl.out], HJ.out.1, HJ.out.2.1, by rw [← HYl.out]; exact HJ.out.2.2.1, j4, (HE6.out.kept kF (fun b hb h => by have h1 := hb.1; have h2 := HB3.out.size; omega)).keep (fun _ _ _ => rfl) (fun b hb => ⟨by have h1 := hb.1; have h2 := HB3.out.size; omega, by have h1 := hb.2; have h4 := HZ4.out; have h6 := HZ6.out; have h7 := kF.size; omega⟩), HB6.out.trans (kF.to_below (B := w.heap.size) (fun b hb => by omega) HB6.out.size)⟩

set_option maxRecDepth 100000 in
set_option maxHeartbeats 4000000 in
theorem backP_ok (m n : Nat) (s0 : Int) (rs : List Rule) (A : Option Addr) (c : Nat) (Sr S : Nat → Prop) (t : Tree) (s : Sym) (B : Option Addr) (d : Nat) (w : World) (hck : checkI ⟨(m : Int), (n : Int), s0, rs⟩ = 0) (hok : StrOk ⟨(m : Int), (n : Int), s0, rs⟩ n) (hlc : rs.length ≤ c) (hc : c ≤ 9223372036854775807) (hA : Els w Sr rs A) (hSr : ∀ b, Sr b → b < w.heap.size)
    (hr : I64 t.rule) (ht : I64 t.term) (hld : t.kids.length ≤ d) (hd : d ≤ 9223372036854775807) (hB : Els w S t.kids B) (hS : ∀ b, S b → b < w.heap.size) (h0 : treeE (strG (⟨(m : Int), (n : Int), s0, rs⟩ : Gram) n) t = 0) (hvt : vt (strG (⟨(m : Int), (n : Int), s0, rs⟩ : Gram) n) t s) (hsn : s.term = true ∨ s.n < (n : Int)) :
    Calls Try.prog 13 #[.agg #[.int .i64 (m : Int), .int .i64 (n : Int), .int .i64 s0, .slice A rs.length c], .agg #[.int .i64 t.rule, .int .i64 t.term, .slice B t.kids.length d]] w (RetLE (bkT (⟨(m : Int), (n : Int), s0, rs⟩ : Gram) n t) w) := by
  have hvg := validG_of hck
  have HCk := Lib.hid hck
  have HV := Lib.hid hvg
  have HOk := Lib.hid hok
  have HA := Lib.hid hA
  have HSr := Lib.hid hSr
  have HS := Lib.hid hS
  have HB := Lib.hid hB
  have HRT := Lib.hid (And.intro hr ht)
  have HX := Lib.hid (And.intro h0 (And.intro hvt hsn))
  obtain ⟨tl, htl⟩ : ∃ tl, tl = t.kids.length := ⟨_, rfl⟩
  have HTl := Lib.hid htl
  rw [← htl] at hld
  obtain ⟨G2, hG2⟩ : ∃ b, b = w.heap.size := ⟨_, rfl⟩
  obtain ⟨T3, hT3⟩ : ∃ b, b = w.heap.size + 1 := ⟨_, rfl⟩
  obtain ⟨R4, hR4⟩ : ∃ b, b = w.heap.size + 1 + 1 := ⟨_, rfl⟩
  obtain ⟨w1, hw1⟩ : ∃ w1 : World, w1 = ((w.alloc (.cells #[.int .i64 (m : Int), .int .i64 (n : Int), .int .i64 s0, .slice A rs.length c] 25)).alloc (.cells #[.int .i64 t.rule, .int .i64 t.term, .slice B tl d] 47)).alloc (.cells #[.int .i64 0, .int .i64 0, .slice none 0 0] 47) := ⟨_, rfl⟩
  have hb1 : Below w.heap.size w w1 := by rw [hw1]; exact (((Below.refl _ _).alloc (Nat.le_refl _) _).alloc (by simp) _).alloc (by simp; omega) _
  have HG1 : Hid (Blk' w1 G2 25 #[.int .i64 (m : Int), .int .i64 (n : Int), .int .i64 s0, .slice A rs.length c]) := Lib.hid (by rw [hw1, hG2]; exact ((Blk'.new _ _ _).alloc _).alloc _)
  have HT1 : Hid (Blk' w1 T3 47 #[.int .i64 t.rule, .int .i64 t.term, .slice B tl d]) := Lib.hid (by rw [hw1]; exact (Blk'.new' _ _ _ (by rw [hT3]; simp)).alloc _)
  have HR1 : Hid (Blk' w1 R4 47 #[.int .i64 0, .int .i64 0, .slice none 0 0]) := Lib.hid (by rw [hw1]; exact Blk'.new' _ _ _ (by rw [hR4]; simp))
  have HZ : Hid (G2 = w.heap.size ∧ T3 = w.heap.size + 1 ∧ R4 = w.heap.size + 2 ∧ w1.heap.size = w.heap.size + 3) := Lib.hid ⟨hG2, hT3, hR4, by rw [hw1]; simp⟩
  have HB1 := Lib.hid hb1
  have HW1 := Lib.hid hw1
  have HA1 := Lib.hid (HA.out.below hb1)
  clear hb1 hw1 hck hok hA hSr hB hS hr ht hvg h0 hvt hsn
  rw [← htl]
  clear htl
  go_enter Try.func13, Try.ntmps13
  go_upto_region 1 with (fail)
  rw [← HW1.out, ← hR4, ← hT3, ← hG2]
  clear HW1 hR4 hT3 hG2
  have g0 : w1.cell? ⟨G2, 0, none⟩ = some (.int .i64 (m : Int)) := HG1.out.cell 0
  have g1 : w1.cell? ⟨G2, 1, none⟩ = some (.int .i64 (n : Int)) := HG1.out.cell 1
  have g2 : w1.cell? ⟨G2, 2, none⟩ = some (.int .i64 s0) := HG1.out.cell 2
  have g3 : w1.cell? ⟨G2, 3, none⟩ = some (.slice A rs.length c) := HG1.out.cell 3
  have zG : G2 < w1.heap.size := HG1.out.lt
  go_wp2_with fail
  refine (leftOf_any ⟨(m : Int), (n : Int), s0, rs⟩ m n A c Sr w1 rfl rfl HCk.out hlc hc HA1.out (fun b hb => by have := HSr.out b hb; have := HB1.out.size; omega)).mono ?_
  rintro e w2 (⟨k, hbad, _⟩ | ⟨_, P, gT, A1, A2, c1, c2, rfl, hP0, hPb, q1, q2, hE1, q3, q4, hE2, hgT, hTb, hb2⟩)
  · exact absurd hbad HOk.out.not
  have HPM : Hid (PlanM w2 P gT ⟨(m : Int), (n : Int), s0, rs⟩ n A A1 A2 c c1 c2 Sr (fun b => w1.heap.size ≤ b ∧ b < w2.heap.size)) := Lib.hid ⟨hPb, HA1.out.below hb2, hE1, hE2, hTb⟩
  have HQ := Lib.hid (And.intro q1 (And.intro q2 (And.intro q3 q4)))
  have HB2 := Lib.hid (bthen HB1.out hb2 HB1.out.size)
  have HG2 := Lib.hid (HG1.out.below hb2 HG1.out.lt)
  have HT2 := Lib.hid (HT1.out.below hb2 HT1.out.lt)
  have HR2 := Lib.hid (HR1.out.below hb2 HR1.out.lt)
  have HBk := Lib.hid (HB.out.below HB2.out)
  have HA2 := Lib.hid (HA1.out.below hb2)
  have HZ2 : Hid (w1.heap.size ≤ w2.heap.size) := Lib.hid hb2.size
  clear hP0 hPb hE1 hE2 hgT hTb q1 q2 q3 q4 hb2 g0 g1 g2 g3 zG
  have g0 : w2.cell? ⟨G2, 0, none⟩ = some (.int .i64 (m : Int)) := HG2.out.cell 0
  have g1 : w2.cell? ⟨G2, 1, none⟩ = some (.int .i64 (n : Int)) := HG2.out.cell 1
  have g2 : w2.cell? ⟨G2, 2, none⟩ = some (.int .i64 s0) := HG2.out.cell 2
  have g3 : w2.cell? ⟨G2, 3, none⟩ = some (.slice A rs.length c) := HG2.out.cell 3
  have zG : G2 < w2.heap.size := HG2.out.lt
  have t0 : w2.cell? ⟨T3, 0, none⟩ = some (.int .i64 t.rule) := HT2.out.cell 0
  have t1 : w2.cell? ⟨T3, 1, none⟩ = some (.int .i64 t.term) := HT2.out.cell 1
  have t2 : w2.cell? ⟨T3, 2, none⟩ = some (.slice B tl d) := HT2.out.cell 2
  have zT : T3 < w2.heap.size := HT2.out.lt
  obtain ⟨og, hog⟩ : ∃ og, og = strG ⟨(m : Int), (n : Int), s0, rs⟩ n := ⟨_, rfl⟩
  have HOg := Lib.hid hog
  have HVo : Hid (ValidG og) := Lib.hid (by obtain ⟨_, _, hchk, _⟩ := HOk.out; rw [hog]; exact validG_of hchk)
  obtain ⟨ql, hql⟩ : ∃ ql, ql = og.rules.length := ⟨_, rfl⟩
  have HQl := Lib.hid hql
  have hql9 : ql ≤ 32 := by rw [hql]; exact HVo.out.len
  have p4 : w2.cell? ⟨P, 4, none⟩ = some (.int .i64 og.terms) := by rw [hog]; exact HPM.out.ptr.cell 4
  have p5 : w2.cell? ⟨P, 5, none⟩ = some (.int .i64 og.nons) := by rw [hog]; exact HPM.out.ptr.cell 5
  have p6 : w2.cell? ⟨P, 6, none⟩ = some (.int .i64 og.start) := by rw [hog]; exact HPM.out.ptr.cell 6
  have p7 : w2.cell? ⟨P, 7, none⟩ = some (.slice A1 ql c1) := by rw [hql, hog]; exact HPM.out.ptr.cell 7
  have zP : P < w2.heap.size := HPM.out.ptr.lt
  rw [← hog] at HX
  clear hog hql g0 g1 g2 g3 zG
  go_wp2_with fail
  refine wp_region_noPanic ?_
  refine wp_region_held_drew (S := (fun w' => w'.cell? ⟨P, 4, none⟩ = some (.int .i64 og.terms) ∧ w'.cell? ⟨P, 5, none⟩ = some (.int .i64 og.nons) ∧ w'.cell? ⟨P, 6, none⟩ = some (.int .i64 og.start) ∧ w'.cell? ⟨P, 7, none⟩ = some (.slice A1 ql c1) ∧ w'.cell? ⟨T3, 0, none⟩ = some (.int .i64 t.rule) ∧ w'.cell? ⟨T3, 1, none⟩ = some (.int .i64 t.term) ∧ w'.cell? ⟨T3, 2, none⟩ = some (.slice B tl d))) (by kernel_rfl) ?ha (fun hHeld => ?ba)
  case ha => ((try dsimp only); go_keep)
  refine take_run (i := 0) (v := ?va0) rfl (by kernel_rfl) (by kernel_rfl) (by kernel_rfl) (fun _ _ _ h => h) (by rfl) ?ya0 (by assumption) ?ra0
  case ya0 => (intro w hSw; (try dsimp only at hSw); go_simp; try with_reducible rfl)
  try simp only [Act.put, List.setIfInBounds_toArray, List.set_cons_zero, List.set_cons_succ]
  refine take_run (i := 1) (v := ?va1) rfl (by kernel_rfl) (by kernel_rfl) (by kernel_rfl) (fun _ _ _ h => h) (by rfl) ?ya1 (by assumption) ?ra1
  case ya1 => (intro w hSw; (try dsimp only at hSw); go_simp; try with_reducible rfl)
  try simp only [Act.put, List.setIfInBounds_toArray, List.set_cons_zero, List.set_cons_succ]
  refine take_run (i := 2) (v := ?va2) rfl (by kernel_rfl) (by kernel_rfl) (by kernel_rfl) (fun _ _ _ h => h) (by rfl) ?ya2 (by assumption) ?ra2
  case ya2 => (intro w hSw; (try dsimp only at hSw); go_simp; try with_reducible rfl)
  try simp only [Act.put, List.setIfInBounds_toArray, List.set_cons_zero, List.set_cons_succ]
  refine take_run (i := 3) (v := ?va3) rfl (by kernel_rfl) (by kernel_rfl) (by kernel_rfl) (fun _ _ _ h => h) (by rfl) ?ya3 (by assumption) ?ra3
  case ya3 => (intro w hSw; (try dsimp only at hSw); go_simp; try with_reducible rfl)
  try simp only [Act.put, List.setIfInBounds_toArray, List.set_cons_zero, List.set_cons_succ]
  refine take_run (i := 4) (v := ?va4) rfl (by kernel_rfl) (by kernel_rfl) (by kernel_rfl) (fun _ _ _ h => h) (by rfl) ?ya4 (by assumption) ?ra4
  case ya4 => (intro w hSw; (try dsimp only at hSw); go_simp; try with_reducible rfl)
  try simp only [Act.put, List.setIfInBounds_toArray, List.set_cons_zero, List.set_cons_succ]
  refine take_call (i := 5) rfl (by kernel_rfl) (by rfl) (fun Kq hK => ?_)
  go_simp
  go_at_call 26
  rw [HQl.out, HTl.out]
  refine (gtree_any og A1 c1 (fun b => w1.heap.size ≤ b ∧ b < w2.heap.size) S t B d w2.drew (by rw [← HQl.out]; omega) (fun q hq => by have := (HVo.out.rules q hq).2.2.1; omega) (HPM.out.outs.below (Below.refl w2.heap.size w2).drew |> fun h => by rw [HOg.out]; exact h) (fun b hb => hb.2) (fun b hb => Nat.lt_of_lt_of_le (HS.out b hb) HB2.out.size) HRT.out.1 HRT.out.2 (by rw [← HTl.out]; exact hld) hd (HBk.out.below (Below.refl w2.heap.size w2).drew)).mono ?_
  rintro e w3 ⟨rfl, hb3⟩
  replace hb3 : Below w2.heap.size w2 w3 := bundrew hb3
  rw [HX.out.1, ← HQl.out, ← HTl.out]
  have HB3 := Lib.hid (bthen HB2.out hb3 HB2.out.size)
  have HZ3 : Hid (Below w2.heap.size w2 w3) := Lib.hid hb3
  have p4b : w3.cell? ⟨P, 4, none⟩ = some (.int .i64 og.terms) := (hb3.cell (p := ⟨P, 4, none⟩) zP).trans p4
  have p5b : w3.cell? ⟨P, 5, none⟩ = some (.int .i64 og.nons) := (hb3.cell (p := ⟨P, 5, none⟩) zP).trans p5
  have p6b : w3.cell? ⟨P, 6, none⟩ = some (.int .i64 og.start) := (hb3.cell (p := ⟨P, 6, none⟩) zP).trans p6
  have p7b : w3.cell? ⟨P, 7, none⟩ = some (.slice A1 ql c1) := (hb3.cell (p := ⟨P, 7, none⟩) zP).trans p7
  have t0b : w3.cell? ⟨T3, 0, none⟩ = some (.int .i64 t.rule) := (hb3.cell (p := ⟨T3, 0, none⟩) zT).trans t0
  have t1b : w3.cell? ⟨T3, 1, none⟩ = some (.int .i64 t.term) := (hb3.cell (p := ⟨T3, 1, none⟩) zT).trans t1
  have t2b : w3.cell? ⟨T3, 2, none⟩ = some (.slice B tl d) := (hb3.cell (p := ⟨T3, 2, none⟩) zT).trans t2
  clear hb3
  refine hK.out _ _ ?ha5 (fun hHeld => ?ra5)
  case ha5 => ((try dsimp only); go_keep)
  clear hK Kq
  try simp only [Act.put, List.setIfInBounds_toArray, List.set_cons_zero, List.set_cons_succ]
  refine take_call (i := 6) rfl (by kernel_rfl) (by rfl) (fun Kq hK => ?_)
  go_simp
  refine hK.out _ _ ?ha6 (fun hHeld => ?ra6)
  case ha6 => ((try dsimp only); go_keep)
  clear hK Kq
  try simp only [Act.put, List.setIfInBounds_toArray, List.set_cons_zero, List.set_cons_succ]
  refine wpAnyH_done (by kernel_rfl) ?_ _
  refine NoPanic.normal ?_
  have HPM3 := Lib.hid (HPM.out.below HZ3.out)
  have HR3 := Lib.hid (HR2.out.below HZ3.out HR2.out.lt)
  have HG3 := Lib.hid (HG2.out.below HZ3.out HG2.out.lt)
  have HBk3 := Lib.hid (HBk.out.below HZ3.out)
  have zP3 : P < w3.heap.size := HPM3.out.ptr.lt
  have zT3 : T3 < w3.heap.size := Nat.lt_of_lt_of_le zT HZ3.out.size
  have g1 : w3.cell? ⟨G2, 1, none⟩ = some (.int .i64 (n : Int)) := HG3.out.cell 1
  have zG3 : G2 < w3.heap.size := HG3.out.lt
  clear p4 p5 p6 p7 t0 t1 t2 zP zT p4b p5b p6b
  have HFin : Hid (∀ w4 : World, Below w3.heap.size w3 w4 → RetLE (bkT ⟨(m : Int), (n : Int), s0, rs⟩ n t) w (.returned (.int .i64 0)) w4 → True) := Lib.hid (fun _ _ _ => trivial)
  by_cases hneg : t.rule < 0
  · have hneg2 : ¬ (0 : Int) ≤ t.rule := by omega
    go_upto_region 7 with (fail)
    go_quiet (fail)
    obtain ⟨wq, hwq⟩ : ∃ wq : World, wq = w3.drewN nq := ⟨_, rfl⟩
    have hbq' : Below w3.heap.size w3 wq := by rw [hwq]; exact bdrewN (Below.refl _ _)
    rw [← hwq]
    have HBq := Lib.hid (bthen HB3.out hbq' HB3.out.size)
    have HPMq := Lib.hid (HPM3.out.below hbq')
    have HRq := Lib.hid (HR3.out.below hbq' HR3.out.lt)
    have HBkq := Lib.hid (HBk3.out.below hbq')
    have t0q := (hbq'.cell (p := ⟨T3, 0, none⟩) zT3).trans t0b
    have t1q : wq.cell? ⟨T3, 1, none⟩ = some (.int .i64 t.term) := (hbq'.cell (p := ⟨T3, 1, none⟩) zT3).trans t1b
    have t2q : wq.cell? ⟨T3, 2, none⟩ = some (.slice B tl d) := (hbq'.cell (p := ⟨T3, 2, none⟩) zT3).trans t2b
    have zTq : T3 < wq.heap.size := Nat.lt_of_lt_of_le zT3 hbq'.size
    have HZq : Hid (w3.heap.size ≤ wq.heap.size) := Lib.hid hbq'.size
    clear hwq hbq' t0b t1b t2b p7b g1 zP3 zT3 zG3 hneg hneg2
    go_wp2_with fail
    rw [HTl.out]
    refine (back_any HV.out rfl hlc hc HQ.out.2.2.1 HQ.out.2.2.2 (nodesT t) t s (Nat.le_refl _) (by have h := HX.out.2.1; rw [HOg.out] at h; exact h) HX.out.2.2 wq B d S HPMq.out HRT.out.1 HRT.out.2 (by rw [← HTl.out]; exact hld) hd HBkq.out (fun b hb => by have := HS.out b hb; have := HBq.out.size; omega)).mono ?_
    rintro e w4 ⟨A', c', rfl, j1, j2, j3, j4, hE4, hb4⟩
    obtain ⟨y, hy⟩ : ∃ y, y = bkT ⟨(m : Int), (n : Int), s0, rs⟩ n t := ⟨_, rfl⟩
    have HY := Lib.hid hy
    rw [← hy] at j1 j2 j3 hE4
    rw [← hy]
    obtain ⟨yl, hyl⟩ : ∃ yl, yl = y.kids.length := ⟨_, rfl⟩
    have HYl := Lib.hid hyl
    rw [← hyl] at j3
    rw [← hyl]
    have HJ := Lib.hid (And.intro j1 (And.intro j2 (And.intro j3 j4)))
    have HB4 := Lib.hid (bthen HBq.out hb4 HBq.out.size)
    have HR4 := Lib.hid (HRq.out.below hb4 HRq.out.lt)
    have HE4 := Lib.hid hE4
    have q0 := HR4.out.cell 0
    have q1 := HR4.out.cell 1
    have q2 := HR4.out.cell 2
    have f0 := HR4.out.frozen 0
    have f1 := HR4.out.frozen 1
    have f2 := HR4.out.frozen 2
    have zR := HR4.out.lt
    simp at q0 q1 q2
    clear hb4 hE4 j1 j2 j3 hy hyl t0q t1q t2q zTq
    go_wp2_with fail
    generalize hwF : World.setCell _ _ _ = wF
    obtain ⟨hRF, kF⟩ := set3 HR4.out (.int .i64 y.rule) (.int .i64 y.term) (.slice A' yl c')
    rw [hwF] at hRF kF
    have u0 : wF.cell? ⟨R4, 0, none⟩ = some (.int .i64 y.rule) := hRF.cell 0
    have u1 : wF.cell? ⟨R4, 1, none⟩ = some (.int .i64 y.term) := hRF.cell 1
    have u2 : wF.cell? ⟨R4, 2, none⟩ = some (.slice A' yl c') := hRF.cell 2
    have hz := HZ.out
    have hz2 := HZ2.out
    have hz3 := HZ3.out.size
    have hz4 := HZq.out
    refine bodyPost_ret (v := .tuple #[.agg #[.int .i64 y.rule, .int .i64 y.term, .slice A' yl c'], .int .i64 0]) (by simp [results, Try.results13, go_sem, u0, u1, u2]) rfl ?_
    rw [← HY.out]
    exact ⟨A', c', by rw [HYl.out], HJ.out.1, HJ.out.2.1, by rw [← HYl.out]; exact HJ.out.2.2.1, j4, (HE4.out.kept kF (fun b hb h => by have h1 := hb.1; omega)).keep (fun _ _ _ => rfl) (fun b hb => ⟨by have h1 := hb.1; omega, Nat.lt_of_lt_of_le hb.2 kF.size⟩), HB4.out.trans (kF.to_below (B := w.heap.size) (fun b hb => by omega) HB4.out.size)⟩
  · obtain ⟨tr, htr⟩ : ∃ tr : Nat, t.rule = (tr : Int) := ⟨t.rule.toNat, by omega⟩
    have hroot : ∃ q, og.rules[tr]? = some q ∧ q.left < (n : Int) := by
      have h := HX.out.2.1
      obtain ⟨r, tt, ks⟩ := t
      have htr : r = (tr : Int) := htr
      unfold vt at h
      split at h
      · have : (tr : Int) = -1 := by rw [← htr]; exact h.1
        omega
      · rename_i hst
        obtain ⟨_, _, q, h1, h2, _⟩ := h
        rw [htr, Int.toNat_natCast] at h1
        exact ⟨q, h1, by rw [h2]; exact HX.out.2.2.resolve_left hst⟩
    obtain ⟨q, hq, hqn⟩ := hroot
    obtain ⟨bq, oq, Aq, cq, eA, hSq, hbq, hqi, hrc, hcq, hEq, c0, c1c⟩ := (HPM3.out.outs |> fun h => (by rw [HOg.out]; exact h : Els w3 _ og.rules A1)).rule hq
    subst eA
    have htl9 : (tr : Int) < (ql : Int) := by have h := (List.getElem?_eq_some_iff.1 hq).1; have := HQl.out; omega
    have htr0 : (0 : Int) ≤ (tr : Int) := by omega
    have hqn2 : ¬ (n : Int) ≤ q.left := by omega
    have HTr := Lib.hid htr
    rw [htr] at t0b
    clear hq hqn hSq hqi hrc hcq hEq htr hneg
    go_upto_region 7 with (fail)
    try rw [HTr.out]
    go_quiet (fail)
    obtain ⟨wq, hwq⟩ : ∃ wq : World, wq = w3.drewN nq := ⟨_, rfl⟩
    have hbq' : Below w3.heap.size w3 wq := by rw [hwq]; exact bdrewN (Below.refl _ _)
    rw [← hwq]
    have HBq := Lib.hid (bthen HB3.out hbq' HB3.out.size)
    have HPMq := Lib.hid (HPM3.out.below hbq')
    have HRq := Lib.hid (HR3.out.below hbq' HR3.out.lt)
    have HBkq := Lib.hid (HBk3.out.below hbq')
    have t0q := (hbq'.cell (p := ⟨T3, 0, none⟩) zT3).trans t0b
    have t1q : wq.cell? ⟨T3, 1, none⟩ = some (.int .i64 t.term) := (hbq'.cell (p := ⟨T3, 1, none⟩) zT3).trans t1b
    have t2q : wq.cell? ⟨T3, 2, none⟩ = some (.slice B tl d) := (hbq'.cell (p := ⟨T3, 2, none⟩) zT3).trans t2b
    have zTq : T3 < wq.heap.size := Nat.lt_of_lt_of_le zT3 hbq'.size
    have HZq : Hid (w3.heap.size ≤ wq.heap.size) := Lib.hid hbq'.size
    clear hwq hbq' t0b t1b t2b p7b g1 zP3 zT3 zG3 c0 c1c htl9 htr0 hqn2 hbq
    go_wp2_with fail
    rw [HTl.out]
    rw [← HTr.out]
    refine (back_any HV.out rfl hlc hc HQ.out.2.2.1 HQ.out.2.2.2 (nodesT t) t s (Nat.le_refl _) (by have h := HX.out.2.1; rw [HOg.out] at h; exact h) HX.out.2.2 wq B d S HPMq.out HRT.out.1 HRT.out.2 (by rw [← HTl.out]; exact hld) hd HBkq.out (fun b hb => by have := HS.out b hb; have := HBq.out.size; omega)).mono ?_
    rintro e w4 ⟨A', c', rfl, j1, j2, j3, j4, hE4, hb4⟩
    obtain ⟨y, hy⟩ : ∃ y, y = bkT ⟨(m : Int), (n : Int), s0, rs⟩ n t := ⟨_, rfl⟩
    have HY := Lib.hid hy
    rw [← hy] at j1 j2 j3 hE4
    rw [← hy]
    obtain ⟨yl, hyl⟩ : ∃ yl, yl = y.kids.length := ⟨_, rfl⟩
    have HYl := Lib.hid hyl
    rw [← hyl] at j3
    rw [← hyl]
    have HJ := Lib.hid (And.intro j1 (And.intro j2 (And.intro j3 j4)))
    have HB4 := Lib.hid (bthen HBq.out hb4 HBq.out.size)
    have HR4 := Lib.hid (HRq.out.below hb4 HRq.out.lt)
    have HE4 := Lib.hid hE4
    have q0 := HR4.out.cell 0
    have q1 := HR4.out.cell 1
    have q2 := HR4.out.cell 2
    have f0 := HR4.out.frozen 0
    have f1 := HR4.out.frozen 1
    have f2 := HR4.out.frozen 2
    have zR := HR4.out.lt
    simp at q0 q1 q2
    clear hb4 hE4 j1 j2 j3 hy hyl t0q t1q t2q zTq
    go_wp2_with fail
    generalize hwF : World.setCell _ _ _ = wF
    obtain ⟨hRF, kF⟩ := set3 HR4.out (.int .i64 y.rule) (.int .i64 y.term) (.slice A' yl c')
    rw [hwF] at hRF kF
    have u0 : wF.cell? ⟨R4, 0, none⟩ = some (.int .i64 y.rule) := hRF.cell 0
    have u1 : wF.cell? ⟨R4, 1, none⟩ = some (.int .i64 y.term) := hRF.cell 1
    have u2 : wF.cell? ⟨R4, 2, none⟩ = some (.slice A' yl c') := hRF.cell 2
    have hz := HZ.out
    have hz2 := HZ2.out
    have hz3 := HZ3.out.size
    have hz4 := HZq.out
    refine bodyPost_ret (v := .tuple #[.agg #[.int .i64 y.rule, .int .i64 y.term, .slice A' yl c'], .int .i64 0]) (by simp [results, Try.results13, go_sem, u0, u1, u2]) rfl ?_
    rw [← HY.out]
    exact ⟨A', c', by rw [HYl.out], HJ.out.1, HJ.out.2.1, by rw [← HYl.out]; exact HJ.out.2.2.1, j4, (HE4.out.kept kF (fun b hb h => by have h1 := hb.1; omega)).keep (fun _ _ _ => rfl) (fun b hb => ⟨by have h1 := hb.1; omega, Nat.lt_of_lt_of_le hb.2 kF.size⟩), HB4.out.trans (kF.to_below (B := w.heap.size) (fun b hb => by omega) HB4.out.size)⟩
end Go.Proofs.Ytecofoilghdedaa
