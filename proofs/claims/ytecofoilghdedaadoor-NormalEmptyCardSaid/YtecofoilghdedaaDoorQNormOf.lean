/- Contract: normal.Of of a valid grammar. -/
import Derived.Test.YtecofoilghdedaaDoorQNormMake
import Derived.Test.YtecofoilghdedaaDoorQp1
namespace Go.Proofs.YtecofoilghdedaaDoor
open Go.RowKit
set_option linter.unusedVariables false

theorem infoNPair : (Tryd.prog.info? 94).map (fun i => (i.zero, i.size, i.bytes)) = some (some (.agg #[.int .i64 0, .int .i64 0, .int .i64 0]), 3, 24) := by kernel_rfl
theorem elemNPair : ElemT Tryd.prog NPair 27 94 24 := by obtain ⟨i, h1, h2, h3, h4⟩ := info_parts infoNPair; exact ⟨i, _, Tryd.underlying27, h1, h2, h3, h4, rfl⟩
theorem infoNOne : (Tryd.prog.info? 96).map (fun i => (i.zero, i.size, i.bytes)) = some (some (.agg #[.int .i64 0, .int .i64 0]), 2, 16) := by kernel_rfl
theorem elemNOne : ElemT Tryd.prog NOne 28 96 16 := by obtain ⟨i, h1, h2, h3, h4⟩ := info_parts infoNOne; exact ⟨i, _, Tryd.underlying28, h1, h2, h3, h4, rfl⟩
theorem set6 {w : World} {b : Nat} {t : TypeId} {a0 a1 a2 a3 a4 a5 : Value} (h : Blk' w b t #[a0, a1, a2, a3, a4, a5]) (v0 v1 v2 v3 v4 v5 : Value) :
    Blk' ((((((w.setCell ⟨b, 0, none⟩ v0).setCell ⟨b, 1, none⟩ v1).setCell ⟨b, 2, none⟩ v2).setCell ⟨b, 3, none⟩ v3).setCell ⟨b, 4, none⟩ v4).setCell ⟨b, 5, none⟩ v5) b t #[v0, v1, v2, v3, v4, v5] ∧ Kept (fun x => x = b) w ((((((w.setCell ⟨b, 0, none⟩ v0).setCell ⟨b, 1, none⟩ v1).setCell ⟨b, 2, none⟩ v2).setCell ⟨b, 3, none⟩ v3).setCell ⟨b, 4, none⟩ v4).setCell ⟨b, 5, none⟩ v5) :=
  ⟨(((((h.set_ 0 _).set_ 1 _).set_ 2 _).set_ 3 _).set_ 4 _).set_ 5 _, ((((((Kept.refl (fun x => x = b) w).setCell (p := ⟨b, 0, none⟩) (.inl rfl) _).setCell (p := ⟨b, 1, none⟩) (.inl rfl) _).setCell (p := ⟨b, 2, none⟩) (.inl rfl) _).setCell (p := ⟨b, 3, none⟩) (.inl rfl) _).setCell (p := ⟨b, 4, none⟩) (.inl rfl) _).setCell (p := ⟨b, 5, none⟩) (.inl rfl) _⟩
/-- The pairs and the ones of the normal form of a grammar. -/
def NPairX (m n : Nat) (rs : List Rule) (l a b : Int) : Prop := PairIn (leafN n rs + m) (psN n rs) (psN n rs) l a b
def NOneX (m n : Nat) (rs : List Rule) (l t : Int) : Prop := Leads (leafN n rs + m) (psN n rs) l.toNat (leafN n rs + t.toNat)
def RetNorm (m n s : Nat) (rs : List Rule) (w : World) (en : Ending) (w' : World) : Prop :=
  ∃ A1 c1 A2 c2 em xs ys, en = .returned (.tuple #[.agg #[.int .i64 (m : Int), .int .i64 ((leafN n rs + m : Nat) : Int), .int .i64 (s : Int), .bool em, .slice A1 xs.length c1, .slice A2 ys.length c2], .int .i64 0]) ∧
    (em = true ↔ NulP (psN n rs) (s : Int)) ∧ PairsIs (leafN n rs + m) (NPairX m n rs) xs ∧ OnesIs (leafN n rs + m) m (NOneX m n rs) ys ∧ xs.length ≤ 1000000 ∧ ys.length ≤ 1000000 ∧ xs.length ≤ c1 ∧ c1 ≤ 9223372036854775807 ∧ ys.length ≤ c2 ∧ c2 ≤ 9223372036854775807 ∧
    Els w' (fun b => w.heap.size ≤ b ∧ b < w'.heap.size) xs A1 ∧ Els w' (fun b => w.heap.size ≤ b ∧ b < w'.heap.size) ys A2 ∧ Below w.heap.size w w'

set_option maxRecDepth 100000 in
set_option maxHeartbeats 8000000 in
theorem normOf_any (m n s : Nat) (rs : List Rule) (A : Option Addr) (c : Nat) (S : Nat → Prop) (w : World) (hck : checkI ⟨(m : Int), (n : Int), (s : Int), rs⟩ = 0) (hlc : rs.length ≤ c) (hc : c ≤ 9223372036854775807) (hA : Els w S rs A) (hS : ∀ b, S b → b < w.heap.size) :
    Calls Tryd.prog 10 #[.agg #[.int .i64 (m : Int), .int .i64 (n : Int), .int .i64 (s : Int), .slice A rs.length c]] w (RetNorm m n s rs w) := by
  have hv := validG_of hck
  have HA := Lib.hid hA
  have HS := Lib.hid hS
  have HV := Lib.hid hv
  have HC := Lib.hid hck
  have hl74 := leafN_le hv rfl
  have hm8 := hv.t8
  have hs1 := hv.s1
  have hm1 := hv.t1
  dsimp only at hl74 hm8 hs1 hm1
  clear hA hS hv hck
  obtain ⟨G0, hG0⟩ : ∃ b, b = w.heap.size := ⟨_, rfl⟩
  obtain ⟨R0, hR0⟩ : ∃ b, b = w.heap.size + 1 := ⟨_, rfl⟩
  obtain ⟨w1, hw1⟩ : ∃ w1 : World, w1 = (w.alloc (.cells #[.int .i64 (m : Int), .int .i64 (n : Int), .int .i64 (s : Int), .slice A rs.length c] 25)).alloc (.cells #[.int .i64 0, .int .i64 0, .int .i64 0, .bool false, .slice none 0 0, .slice none 0 0] 30) := ⟨_, rfl⟩
  have hb1 : Below w.heap.size w w1 := by rw [hw1]; exact ((Below.refl _ _).alloc (Nat.le_refl _) _).alloc (by simp) _
  have HG1 : Hid (Blk' w1 G0 25 #[.int .i64 (m : Int), .int .i64 (n : Int), .int .i64 (s : Int), .slice A rs.length c]) := Lib.hid (by rw [hw1, hG0]; exact (Blk'.new _ _ _).alloc _)
  have HR1 : Hid (Blk' w1 R0 30 #[.int .i64 0, .int .i64 0, .int .i64 0, .bool false, .slice none 0 0, .slice none 0 0]) := Lib.hid (by rw [hw1]; exact Blk'.new' _ _ _ (by rw [hR0]; simp))
  have HZ1 : Hid (G0 = w.heap.size ∧ R0 = w.heap.size + 1 ∧ w1.heap.size = w.heap.size + 2) := Lib.hid ⟨hG0, hR0, by rw [hw1]; simp⟩
  have HB1 := Lib.hid hb1
  have HW1 := Lib.hid hw1
  have HE1 := Lib.hid (HA.out.below hb1)
  clear hb1 hw1
  go_enter Tryd.func10, Tryd.ntmps10
  go_upto_region 1 with (fail)
  rw [← HW1.out, ← hR0, ← hG0]
  clear HW1 hG0 hR0
  have g0 : w1.cell? ⟨G0, 0, none⟩ = some (.int .i64 (m : Int)) := HG1.out.cell 0
  have g1 : w1.cell? ⟨G0, 1, none⟩ = some (.int .i64 (n : Int)) := HG1.out.cell 1
  have g2 : w1.cell? ⟨G0, 2, none⟩ = some (.int .i64 (s : Int)) := HG1.out.cell 2
  have g3 : w1.cell? ⟨G0, 3, none⟩ = some (.slice A rs.length c) := HG1.out.cell 3
  have zG : G0 < w1.heap.size := HG1.out.lt
  go_wp2_with fail
  refine (check_any ⟨(m : Int), (n : Int), (s : Int), rs⟩ A c S _ hlc hc HE1.out).mono ?_
  rintro e w2 ⟨rfl, hb2⟩
  rw [HC.out]
  have HG2 := Lib.hid (HG1.out.below hb2 HG1.out.lt)
  have HR2 := Lib.hid (HR1.out.below hb2 HR1.out.lt)
  have HE2 := Lib.hid (HE1.out.below hb2)
  have HB2 := Lib.hid (bthen HB1.out hb2 HB1.out.size)
  have HZ2 : Hid (w1.heap.size ≤ w2.heap.size) := Lib.hid hb2.size
  clear g0 g1 g2 g3 zG hb2
  have g0 : w2.cell? ⟨G0, 0, none⟩ = some (.int .i64 (m : Int)) := HG2.out.cell 0
  have g1 : w2.cell? ⟨G0, 1, none⟩ = some (.int .i64 (n : Int)) := HG2.out.cell 1
  have g2 : w2.cell? ⟨G0, 2, none⟩ = some (.int .i64 (s : Int)) := HG2.out.cell 2
  have g3 : w2.cell? ⟨G0, 3, none⟩ = some (.slice A rs.length c) := HG2.out.cell 3
  have zG : G0 < w2.heap.size := HG2.out.lt
  go_wp2_with fail
  refine (makeForm_any (s : Int) m n rs A c S w2 HV.out hlc hc HE2.out (fun b hb => by have := HS.out b hb; have := HZ1.out; have := HZ2.out; omega)).mono ?_
  rintro e w3 ⟨P, MB, NB, bf, cf, bs, nb, f, rfl, hF, hb3⟩
  obtain ⟨N, hN⟩ : ∃ N, N = leafN n rs + m := ⟨_, rfl⟩
  have HN := Lib.hid hN
  have hN9 : N ≤ 82 := by omega
  have hns : s < N := by have : n ≤ leafN n rs := Nat.le_add_right _ _; omega
  obtain ⟨lf, hlf⟩ : ∃ lf, lf = leafN n rs := ⟨_, rfl⟩
  have HLf := Lib.hid hlf
  obtain ⟨⟨AR, cr, AP, cp, hP3, _⟩, hNl, hnr, hRw, hgt, ⟨nm, hpm⟩, hge⟩ := hF
  rw [← hN, ← hlf] at hP3
  rw [← hN] at hnr hRw hgt hpm
  obtain ⟨em, hem⟩ := get_some (show s < nb.length by rw [hnr.1]; exact hns)
  have HEm : Hid (em = true ↔ NulP (psN n rs) (s : Int)) := Lib.hid (by rw [← hnr.2 (s : Int) (by omega)]; unfold nbAt; rw [List.getD_eq_getElem?_getD, Int.toNat_natCast, hem]; rfl)
  have p6 : w3.cell? ⟨P, 6, none⟩ = some (.int .i64 (N : Int)) := hP3.cell 6
  have p8 : w3.cell? ⟨P, 8, none⟩ = some (.slice (some ⟨NB, 0, none⟩) N N) := hP3.cell 8
  have n0 : w3.cell? ⟨NB, s, none⟩ = some (.bool em) := (hNl.cell _).trans (bcells_get hem)
  have zP : P < w3.heap.size := hP3.lt
  have zN : NB < w3.heap.size := hNl.lt
  have HP3 := Lib.hid hP3
  have HRw := Lib.hid hRw
  have HGt := Lib.hid hgt
  have HPm := Lib.hid hpm
  have HGe := Lib.hid hge
  have HG3 := Lib.hid (HG2.out.below hb3 HG2.out.lt)
  have HR3 := Lib.hid (HR2.out.below hb3 HR2.out.lt)
  have HB3 := Lib.hid (bthen HB2.out hb3 HB2.out.size)
  have HZ3 : Hid (w2.heap.size ≤ w3.heap.size) := Lib.hid hb3.size
  clear g0 g1 g2 g3 zG hb3 hN hlf hP3 hNl hnr hRw hgt hpm hge hem
  have g0 : w3.cell? ⟨G0, 0, none⟩ = some (.int .i64 (m : Int)) := HG3.out.cell 0
  have g2 : w3.cell? ⟨G0, 2, none⟩ = some (.int .i64 (s : Int)) := HG3.out.cell 2
  have zG : G0 < w3.heap.size := HG3.out.lt
  have hs9 : (s : Int) < (N : Int) := by omega
  have hs0 : (0 : Int) ≤ (s : Int) := by omega
  go_wp2_with fail
  refine wp_region_noPanic ?_
  refine stage_start (S := (fun w' => w'.cell? ⟨G0, 0, none⟩ = some (.int .i64 (m : Int)) ∧ w'.cell? ⟨P, 6, none⟩ = some (.int .i64 (N : Int)) ∧ w'.cell? ⟨G0, 2, none⟩ = some (.int .i64 (s : Int)) ∧ w'.cell? ⟨P, 8, none⟩ = some (.slice (some ⟨NB, 0, none⟩) N N) ∧ w'.cell? ⟨NB, s, none⟩ = some (.bool em))) 18 (by kernel_rfl) ?ha (fun hHeld => ?ba)
  case ha => ((try dsimp only); go_keep)
  refine st_pure (i := 0) (v := ?va0) rfl (by kernel_rfl) (by kernel_rfl) (by kernel_rfl) (by kernel_rfl) (fun _ _ _ h => h) (by rfl) ?ya0 (.inl (by assumption)) ?ra0
  case ya0 => (intro w; go_simp; try with_reducible rfl)
  try simp only [Act.put, List.setIfInBounds_toArray, List.set_cons_zero, List.set_cons_succ]
  refine st_run (i := 1) (v := ?va1) rfl (by kernel_rfl) (by kernel_rfl) (by kernel_rfl) (by kernel_rfl) (fun _ _ _ h => h) (by rfl) ?ya1 (by assumption) ?ra1
  case ya1 => (intro w hSw; (try dsimp only at hSw); go_simp; try with_reducible rfl)
  try simp only [Act.put, List.setIfInBounds_toArray, List.set_cons_zero, List.set_cons_succ]
  refine st_pure (i := 2) (v := ?va2) rfl (by kernel_rfl) (by kernel_rfl) (by kernel_rfl) (by kernel_rfl) (fun _ _ _ h => h) (by rfl) ?ya2 (.inl (by assumption)) ?ra2
  case ya2 => (intro w; go_simp; try with_reducible rfl)
  try simp only [Act.put, List.setIfInBounds_toArray, List.set_cons_zero, List.set_cons_succ]
  refine st_pure (i := 3) (v := ?va3) rfl (by kernel_rfl) (by kernel_rfl) (by kernel_rfl) (by kernel_rfl) (fun _ _ _ h => h) (by rfl) ?ya3 (.inl (by assumption)) ?ra3
  case ya3 => (intro w; go_simp; try with_reducible rfl)
  try simp only [Act.put, List.setIfInBounds_toArray, List.set_cons_zero, List.set_cons_succ]
  refine st_pure (i := 4) (v := ?va4) rfl (by kernel_rfl) (by kernel_rfl) (by kernel_rfl) (by kernel_rfl) (fun _ _ _ h => h) (by rfl) ?ya4 (.inl (by assumption)) ?ra4
  case ya4 => (intro w; go_simp; try with_reducible rfl)
  try simp only [Act.put, List.setIfInBounds_toArray, List.set_cons_zero, List.set_cons_succ]
  refine st_run (i := 5) (v := ?va5) rfl (by kernel_rfl) (by kernel_rfl) (by kernel_rfl) (by kernel_rfl) (fun _ _ _ h => h) (by rfl) ?ya5 (by assumption) ?ra5
  case ya5 => (intro w hSw; (try dsimp only at hSw); go_simp; try with_reducible rfl)
  try simp only [Act.put, List.setIfInBounds_toArray, List.set_cons_zero, List.set_cons_succ]
  refine st_pure (i := 6) (v := ?va6) rfl (by kernel_rfl) (by kernel_rfl) (by kernel_rfl) (by kernel_rfl) (fun _ _ _ h => h) (by rfl) ?ya6 (.inl (by assumption)) ?ra6
  case ya6 => (intro w; go_simp; try with_reducible rfl)
  try simp only [Act.put, List.setIfInBounds_toArray, List.set_cons_zero, List.set_cons_succ]
  refine st_run (i := 7) (v := ?va7) rfl (by kernel_rfl) (by kernel_rfl) (by kernel_rfl) (by kernel_rfl) (fun _ _ _ h => h) (by rfl) ?ya7 (by assumption) ?ra7
  case ya7 => (intro w hSw; (try dsimp only at hSw); go_simp; try with_reducible rfl)
  try simp only [Act.put, List.setIfInBounds_toArray, List.set_cons_zero, List.set_cons_succ]
  refine st_pure (i := 8) (v := ?va8) rfl (by kernel_rfl) (by kernel_rfl) (by kernel_rfl) (by kernel_rfl) (fun _ _ _ h => h) (by rfl) ?ya8 (.inl (by assumption)) ?ra8
  case ya8 => (intro w; go_simp; try with_reducible rfl)
  try simp only [Act.put, List.setIfInBounds_toArray, List.set_cons_zero, List.set_cons_succ]
  refine st_pure (i := 9) (v := ?va9) rfl (by kernel_rfl) (by kernel_rfl) (by kernel_rfl) (by kernel_rfl) (fun _ _ _ h => h) (by rfl) ?ya9 (.inl (by assumption)) ?ra9
  case ya9 => (intro w; go_simp; try with_reducible rfl)
  try simp only [Act.put, List.setIfInBounds_toArray, List.set_cons_zero, List.set_cons_succ]
  refine st_pure (i := 10) (v := ?va10) rfl (by kernel_rfl) (by kernel_rfl) (by kernel_rfl) (by kernel_rfl) (fun _ _ _ h => h) (by rfl) ?ya10 (.inl (by assumption)) ?ra10
  case ya10 => (intro w; go_simp; try with_reducible rfl)
  try simp only [Act.put, List.setIfInBounds_toArray, List.set_cons_zero, List.set_cons_succ]
  refine st_run (i := 11) (v := ?va11) rfl (by kernel_rfl) (by kernel_rfl) (by kernel_rfl) (by kernel_rfl) (fun _ _ _ h => h) (by rfl) ?ya11 (by assumption) ?ra11
  case ya11 => (intro w hSw; (try dsimp only at hSw); go_simp; try with_reducible rfl)
  try simp only [Act.put, List.setIfInBounds_toArray, List.set_cons_zero, List.set_cons_succ]
  refine st_pure (i := 12) (v := ?va12) rfl (by kernel_rfl) (by kernel_rfl) (by kernel_rfl) (by kernel_rfl) (fun _ _ _ h => h) (by rfl) ?ya12 (.inl (by assumption)) ?ra12
  case ya12 => (intro w; go_simp; try with_reducible rfl)
  try simp only [Act.put, List.setIfInBounds_toArray, List.set_cons_zero, List.set_cons_succ]
  refine st_run (i := 13) (v := ?va13) rfl (by kernel_rfl) (by kernel_rfl) (by kernel_rfl) (by kernel_rfl) (fun _ _ _ h => h) (by rfl) ?ya13 (by assumption) ?ra13
  case ya13 => (intro w hSw; (try dsimp only at hSw); go_simp; try with_reducible rfl)
  try simp only [Act.put, List.setIfInBounds_toArray, List.set_cons_zero, List.set_cons_succ]
  refine st_pure (i := 14) (v := ?va14) rfl (by kernel_rfl) (by kernel_rfl) (by kernel_rfl) (by kernel_rfl) (fun _ _ _ h => h) (by rfl) ?ya14 (.inl (by assumption)) ?ra14
  case ya14 => (intro w; go_simp; try with_reducible rfl)
  try simp only [Act.put, List.setIfInBounds_toArray, List.set_cons_zero, List.set_cons_succ]
  refine st_run (i := 15) (v := ?va15) rfl (by kernel_rfl) (by kernel_rfl) (by kernel_rfl) (by kernel_rfl) (fun _ _ _ h => h) (by rfl) ?ya15 (by assumption) ?ra15
  case ya15 => (intro w hSw; (try dsimp only at hSw); go_simp; try with_reducible rfl)
  try simp only [Act.put, List.setIfInBounds_toArray, List.set_cons_zero, List.set_cons_succ]
  refine st_pure (i := 16) (v := ?va16) rfl (by kernel_rfl) (by kernel_rfl) (by kernel_rfl) (by kernel_rfl) (fun _ _ _ h => h) (by rfl) ?ya16 (.inl (by assumption)) ?ra16
  case ya16 => (intro w; go_simp; try with_reducible rfl)
  try simp only [Act.put, List.setIfInBounds_toArray, List.set_cons_zero, List.set_cons_succ]
  refine st_one (i := 17) rfl (by kernel_rfl) (by rfl) (fun Kq hK => ?_)
  go_simp
  refine hK.out _ _ ?ha17 (fun hHeld => ?ra17)
  case ha17 => ((try dsimp only); go_keep)
  clear hK Kq
  try simp only [Act.put, List.setIfInBounds_toArray, List.set_cons_zero, List.set_cons_succ]
  refine st_late (i := 18) rfl (by kernel_rfl) (by rfl) (by kernel_rfl) (fun Kq hK => ?_)
  go_simp
  refine hK.out _ _ ?_
  clear hK Kq
  try simp only [Act.put, List.setIfInBounds_toArray, List.set_cons_zero, List.set_cons_succ]
  refine wpAnyD_done (by kernel_rfl) ?_ _
  refine NoPanic.normal ?_
  obtain ⟨OB, hOB⟩ : ∃ OB, OB = w3.heap.size := ⟨_, rfl⟩
  obtain ⟨wz, hwz⟩ : ∃ wz : World, wz = (w3.alloc (.cells #[.int .i64 (m : Int), .int .i64 (N : Int), .int .i64 (s : Int), .bool em, .slice none 0 0, .slice none 0 0] 30)).drew := ⟨_, rfl⟩
  rw [← hOB, ← hwz]
  have hbz : Below w3.heap.size w3 wz := by rw [hwz]; exact ((Below.refl _ _).alloc (Nat.le_refl _) _).drew
  have HOz : Hid (Blk' wz OB 30 #[.int .i64 (m : Int), .int .i64 (N : Int), .int .i64 (s : Int), .bool em, .slice none 0 0, .slice none 0 0]) := Lib.hid (by rw [hwz, hOB]; exact (Blk'.new _ _ _).drew)
  have HZz : Hid (OB = w3.heap.size ∧ wz.heap.size = OB + 1) := Lib.hid ⟨hOB, by rw [hwz, hOB]; simp⟩
  have HPz := Lib.hid (HP3.out.below hbz HP3.out.lt)
  have HRz := Lib.hid (HRw.out.below hbz)
  have HMz := Lib.hid (HPm.out.below hbz)
  have HGz := Lib.hid (HG3.out.below hbz HG3.out.lt)
  have HR0z := Lib.hid (HR3.out.below hbz HR3.out.lt)
  have HBz := Lib.hid (bthen HB3.out hbz HB3.out.size)
  have HL3 : Hid (P < OB ∧ MB < OB ∧ G0 < OB ∧ R0 < OB ∧ ∀ b ∈ bf :: bs, b < OB) := Lib.hid (by rw [hOB]; exact ⟨HP3.out.lt, HPm.out.lt, HG3.out.lt, HR3.out.lt, HRw.out.lt⟩)
  obtain ⟨X, hX⟩ : ∃ X : Int → Int → Int → Prop, X = NPairX m n rs := ⟨_, rfl⟩
  obtain ⟨Y, hY⟩ : ∃ Y : Int → Int → Prop, Y = NOneX m n rs := ⟨_, rfl⟩
  have HX := Lib.hid hX
  have HY := Lib.hid hY
  have HPX : Hid (PairM wz MB nm (fun l a b => 0 ≤ l ∧ l < (N : Int) ∧ X l a b)) := Lib.hid (HMz.out.iff (fun l a b _ _ _ => by rw [HX.out, NPairX, ← HN.out]))
  have HGY : Hid (∀ l t : Nat, l < N → t < m → (Gt f l (lf + t) ↔ Y l t)) := Lib.hid (fun l t hl ht => by
    rw [HY.out, NOneX, ← HN.out, ← HLf.out]
    simp only [Int.toNat_natCast]
    exact HGt.out l (lf + t) hl (by have e1 := HN.out; have e2 := HLf.out; omega))
  have hlN : lf + m = N := by rw [HN.out, HLf.out]
  have p6 : wz.cell? ⟨P, 6, none⟩ = some (.int .i64 (N : Int)) := HPz.out.cell 6
  have zP : P < wz.heap.size := HPz.out.lt
  clear hOB hwz hbz hX hY HP3 HRw HPm HG3 HR3 HMz g0 g2 p8 n0 zN zG
  have Hln := Lib.hid hlN
  clear hlN
  go_wp2_with fail
  clear p6 zP
  go_loopw [40] (fun i wr => ∃ (l : Nat) (v1 v2 : Value) (xs : List NPair) (ys : List NOne), l ≤ N ∧ i = .int .i64 l ∧ Blk' wr OB 30 #[.int .i64 (m : Int), .int .i64 (N : Int), .int .i64 (s : Int), .bool em, v1, v2] ∧ Two wr (fun _ => False) wz.heap.size 94 96 v1 v2 xs ys ∧ PrW N X l 0 0 xs ∧ OnW N m Y l 0 ys ∧ Kept (fun b => b = OB) wz wr) (fun i _ => N - (intOf i).toNat)
  case atStart => exact ⟨0, _, _, [], [], Nat.zero_le _, rfl, HOz.out, Two.nil _ _ _ _ _, PrW.start, OnW.start, Kept.refl _ _⟩
  case round =>
    obtain ⟨wa, hwa⟩ : ∃ wa : World, wa = wr := ⟨_, rfl⟩
    subst hwa
    obtain ⟨l, v1, v2, xs, ys, hl, rfl, hO, hT, hP, hY, hK⟩ := hrel
    have HOa := Lib.hid hO
    have HTa := Lib.hid hT
    have HPa := Lib.hid hP
    have HYa := Lib.hid hY
    have HKa := Lib.hid hK
    clear hO hT hP hY hK
    have HPb := Lib.hid (HPz.out.kept HKa.out (by have := HL3.out; omega))
    by_cases hln : l < N
    · have p6 : wa.cell? ⟨P, 6, none⟩ = some (.int .i64 (N : Int)) := HPb.out.cell 6
      have zP : P < wa.heap.size := HPb.out.lt
      have hl9 : (l : Int) < (N : Int) := by omega
      go_wp2_with fail
      clear p6 zP
      go_loopw [47] (fun i wr => ∃ (a : Nat) (v1 : Value) (xs : List NPair), a ≤ N ∧ i = .int .i64 a ∧ Blk' wr OB 30 #[.int .i64 (m : Int), .int .i64 (N : Int), .int .i64 (s : Int), .bool em, v1, v2] ∧ Two wr (fun _ => False) wz.heap.size 94 96 v1 v2 xs ys ∧ PrW N X l a 0 xs ∧ Kept (fun b => b = OB) wz wr) (fun i _ => N - (intOf i).toNat)
      case atStart => exact ⟨0, v1, xs, Nat.zero_le _, rfl, HOa.out, HTa.out, HPa.out, HKa.out⟩
      case round =>
        obtain ⟨wb, hwb⟩ : ∃ wb : World, wb = wr := ⟨_, rfl⟩
        subst hwb
        obtain ⟨a, v1, xs, ha, rfl, hO, hT, hP, hK⟩ := hrel
        have HOb := Lib.hid hO
        have HTb := Lib.hid hT
        have HPr := Lib.hid hP
        have HKb := Lib.hid hK
        clear hO hT hP hK HOa HTa HPa HKa HPb
        have HPb := Lib.hid (HPz.out.kept HKb.out (by have := HL3.out; omega))
        by_cases han : a < N
        · have p6 : wb.cell? ⟨P, 6, none⟩ = some (.int .i64 (N : Int)) := HPb.out.cell 6
          have zP : P < wb.heap.size := HPb.out.lt
          have ha9 : (a : Int) < (N : Int) := by omega
          go_wp2_with fail
          clear p6 zP
          go_loopw [54] (fun i wr => ∃ (b : Nat) (v1 : Value) (xs : List NPair), b ≤ N ∧ i = .int .i64 b ∧ Blk' wr OB 30 #[.int .i64 (m : Int), .int .i64 (N : Int), .int .i64 (s : Int), .bool em, v1, v2] ∧ Two wr (fun _ => False) wz.heap.size 94 96 v1 v2 xs ys ∧ PrW N X l a b xs ∧ Kept (fun b => b = OB) wz wr) (fun i _ => N - (intOf i).toNat)
          case atStart => exact ⟨0, v1, xs, Nat.zero_le _, rfl, HOb.out, HTb.out, HPr.out, HKb.out⟩
          case round =>
            obtain ⟨wi, hwi⟩ : ∃ wi : World, wi = wr := ⟨_, rfl⟩
            subst hwi
            obtain ⟨b, v1, xs, hb, rfl, hO, hT, hP, hK⟩ := hrel
            have HOi := Lib.hid hO
            have HTi := Lib.hid hT
            have HPi := Lib.hid hP
            have HKi := Lib.hid hK
            clear hO hT hP hK HOb HTb HPr HKb HPb
            by_cases hbn : b < N
            · have HPb := Lib.hid (HPz.out.kept HKi.out (by have := HL3.out; omega))
              have p10 : wi.cell? ⟨P, 10, none⟩ = some (.map (some MB)) := HPb.out.cell 10
              have zP : P < wi.heap.size := HPb.out.lt
              have hb9 : (b : Int) < (N : Int) := by omega
              have o4 : wi.cell? ⟨OB, 4, none⟩ = some v1 := HOi.out.cell 4
              have zO : OB < wi.heap.size := HOi.out.lt
              obtain ⟨x, hrun, hx⟩ := (HPX.out.kept HKi.out (by have := HL3.out; omega)).look (show I64 (l : Int) from ⟨by omega, by omega⟩) (show I64 (a : Int) from ⟨by omega, by omega⟩) (show I64 (b : Int) from ⟨by omega, by omega⟩)
              have HXx : Hid (x = true ↔ X l a b) := Lib.hid (hx.trans ⟨fun h => h.2.2, fun h => ⟨by omega, by omega, h⟩⟩)
              have HLen := Lib.hid (HPi.out.len hN9)
              clear hx
              cases x
              · have HPs := Lib.hid (HPi.out.skip (fun h => by have := HXx.out.2 h; cases this))
                go_wp2_with fail
                go_roundw
                case rel => exact ⟨b + 1, v1, xs, hbn, by go_num, HOi.out, HTi.out, HPs.out, HKi.out⟩
                case measure => simp [intOf]; omega
              · have HPs := Lib.hid (HPi.out.put hln han hbn (HXx.out.1 (by first | rfl | trivial)))
                have HRd : Hid (Dat.rd (wi.alloc (.cells #[.int .i64 (l : Int), .int .i64 (a : Int), .int .i64 (b : Int)] 94)) (T2 (fun _ => False) wz.heap.size v1 v2 (wi.alloc (.cells #[.int .i64 (l : Int), .int .i64 (a : Int), .int .i64 (b : Int)] 94))) (⟨(l : Int), (a : Int), (b : Int)⟩ : NPair) [.int .i64 (l : Int), .int .i64 (a : Int), .int .i64 (b : Int)]) := Lib.hid ⟨rfl, ⟨by dsimp only; omega, by dsimp only; omega⟩, ⟨by dsimp only; omega, by dsimp only; omega⟩, ⟨by dsimp only; omega, by dsimp only; omega⟩⟩
                have HCp : Hid ((xs.length + 1) * 24 ≤ 140737488355328 ∧ xs.length + 1 ≤ 9223372036854775807 ∧ wz.heap.size ≤ (wi.alloc (.cells #[.int .i64 (l : Int), .int .i64 (a : Int), .int .i64 (b : Int)] 94)).heap.size) := Lib.hid ⟨by have := HLen.out; omega, by have := HLen.out; omega, by have := HKi.out.size; simp; omega⟩
                have HNv : Hid (∀ g, v1.ownBlock = some g → wz.heap.size ≤ g ∧ g < wi.heap.size) := Lib.hid (fun g hg => HTi.out.1.block g hg)
                go_wp2_with (at_builtin; (refine wpList_two1 _ rfl _ _ elemNPair rfl rfl (HTi.out.alloc (.cells #[.int .i64 (l : Int), .int .i64 (a : Int), .int .i64 (b : Int)] 94)) (⟨(l : Int), (a : Int), (b : Int)⟩ : NPair) [.int .i64 (l : Int), .int .i64 (a : Int), .int .i64 (b : Int)] rfl (At.new _ _ _) HRd.out HCp.out.1 HCp.out.2.1 HCp.out.2.2 ?_); (intro v' w4 hT4 hg4 hat4); (obtain ⟨A9, k9, hv9, _⟩ := hT4.1.form); (rw [snoc_len] at hv9); (subst hv9); (have hKg : Kept (fun g => v1.ownBlock = some g) (wi.alloc (.cells #[.int .i64 (l : Int), .int .i64 (a : Int), .int .i64 (b : Int)] 94)) w4 := Kept.of_grown (X := fun g => v1.ownBlock = some g) hg4 (fun g hg => hg)); (have HO4 := Lib.hid ((HOi.out.alloc (.cells #[.int .i64 (l : Int), .int .i64 (a : Int), .int .i64 (b : Int)] 94)).kept hKg (fun h => (by have := HNv.out _ h; have := HZz.out; omega)))); (have HK4 := Lib.hid ((HKi.out.alloc (.cells #[.int .i64 (l : Int), .int .i64 (a : Int), .int .i64 (b : Int)] 94)).later hKg (fun g hg => .inr (HNv.out g hg).1))); (have HT4 := Lib.hid hT4); (have o4' := HO4.out.cell 4); (have fo4 := HO4.out.frozen 4); (have zO4 := HO4.out.lt); (simp at o4'); (clear hT4 hg4 hat4 hKg))
                have HO5 := Lib.hid (HO4.out.set_ 4 (.slice A9 (xs.length + 1) k9))
                have HT5 := Lib.hid (HT4.out.set_ (p := ⟨OB, 4, none⟩) (fun h => by rcases h with h | h; exact h; have := HZz.out; dsimp only at h; omega) (.slice A9 (xs.length + 1) k9))
                have HK5 := Lib.hid (HK4.out.setCell (p := ⟨OB, 4, none⟩) (.inl rfl) (.slice A9 (xs.length + 1) k9))
                go_roundw
                case rel => exact ⟨b + 1, _, _, hbn, by go_num, HO5.out, HT5.out, HPs.out, HK5.out⟩
                case measure => simp [intOf]; omega
            · have hbb : b = N := by omega
              have HPs : Hid (PrW N X l (a + 1) 0 xs) := Lib.hid (by have h := HPi.out; rw [hbb] at h; exact h.nextA)
              clear hbb
              go_wp2_with fail
              go_roundw
              case rel => exact ⟨a + 1, v1, xs, han, by go_num, HOi.out, HTi.out, HPs.out, HKi.out⟩
              case measure => simp [intOf]; omega
        · have haa : a = N := by omega
          have HPs : Hid (PrW N X (l + 1) 0 0 xs) := Lib.hid (by have h := HPr.out; rw [haa] at h; exact h.nextL)
          have HGb := Lib.hid (HGz.out.kept HKb.out (by have := HL3.out; omega))
          have g0 : wb.cell? ⟨G0, 0, none⟩ = some (.int .i64 (m : Int)) := HGb.out.cell 0
          have zG : G0 < wb.heap.size := HGb.out.lt
          clear haa
          go_wp2_with fail
          clear g0 zG
          go_loopw [79] (fun i wr => ∃ (t : Nat) (v2 : Value) (ys : List NOne), t ≤ m ∧ i = .int .i64 t ∧ Blk' wr OB 30 #[.int .i64 (m : Int), .int .i64 (N : Int), .int .i64 (s : Int), .bool em, v1, v2] ∧ Two wr (fun _ => False) wz.heap.size 94 96 v1 v2 xs ys ∧ OnW N m Y l t ys ∧ Kept (fun b => b = OB) wz wr) (fun i _ => m - (intOf i).toNat)
          case atStart => exact ⟨0, v2, ys, Nat.zero_le _, rfl, HOb.out, HTb.out, HYa.out, HKb.out⟩
          case round =>
            obtain ⟨wi, hwi⟩ : ∃ wi : World, wi = wr := ⟨_, rfl⟩
            subst hwi
            obtain ⟨t, v2, ys, ht, rfl, hO, hT, hY, hK⟩ := hrel
            have HOi := Lib.hid hO
            have HTi := Lib.hid hT
            have HYi := Lib.hid hY
            have HKi := Lib.hid hK
            clear hO hT hY hK HOb HTb HYa HKb HGb HPb
            by_cases htn : t < m
            · have HPb := Lib.hid (HPz.out.kept HKi.out (by have := HL3.out; omega))
              have hRi := HRz.out.kept HKi.out (fun b hb e => by have := HL3.out.2.2.2.2 b hb; omega)
              have hlt : lf + t < N := by have := Hln.out; omega
              have hlb : l < bs.length := by rw [hRi.blen]; exact hln
              obtain ⟨bl, hbl2⟩ := get_some hlb
              obtain ⟨row, hrow, hrd, hrl2⟩ := (WarS.ofRows hRi).get hln
              have hBl := (hRi.rows l bl row hbl2 hrow).1
              obtain ⟨x, hx⟩ := get_some (show lf + t < row.length by omega)
              have HXg : Hid (x = true ↔ Y l t) := Lib.hid (by rw [← HGY.out l t hln htn]; unfold Gt; rw [hrd, hx]; simp)
              have p9 : wi.cell? ⟨P, 9, none⟩ = some (.slice (some ⟨bf, 0, none⟩) N cf) := HPb.out.cell 9
              have p5 : wi.cell? ⟨P, 5, none⟩ = some (.int .i64 (lf : Int)) := HPb.out.cell 5
              have zP : P < wi.heap.size := HPb.out.lt
              have o0 : wi.cell? ⟨bf, l, none⟩ = some (.slice (some ⟨bl, 0, none⟩) N N) := hRi.outer l bl hbl2
              obtain ⟨y, hy⟩ : ∃ y, y = lf + t := ⟨_, rfl⟩
              have hwr : IntKind.i64.wrap ((lf : Int) + (t : Int)) = (y : Int) := by rw [IntWalk.i64_in _ (by omega), hy]; omega
              have y0 : wi.cell? ⟨bl, y, none⟩ = some (.bool x) := by rw [hy]; exact (hBl.cell _).trans (bcells_get hx)
              have hy9 : (y : Int) < (N : Int) := by omega
              have hy0 : (0 : Int) ≤ (y : Int) := by omega
              have hl00 : (0 : Int) ≤ (l : Int) := by omega
              have hl9 : (l : Int) < (N : Int) := by omega
              have o5 : wi.cell? ⟨OB, 5, none⟩ = some v2 := HOi.out.cell 5
              have zO : OB < wi.heap.size := HOi.out.lt
              have HLen := Lib.hid (HYi.out.len hN9 (by omega))
              clear hRi hlt hlb hbl2 hrow hrd hrl2 hBl hx hy
              go_upto_region 22 with (fail)
              cases x
              · have HYs := Lib.hid (HYi.out.skip (fun h => by have := HXg.out.2 h; cases this))
                go_quiet (fail)
                go_wp2_with fail
                go_roundw
                case rel => exact ⟨t + 1, v2, ys, htn, by go_num, HOi.out.drewN _, HTi.out.drewN _, HYs.out, HKi.out.below (bdrewN (Below.refl _ _))⟩
                case measure => simp [intOf]; omega
              · have HYs := Lib.hid (HYi.out.put hln htn (HXg.out.1 (by first | rfl | trivial)))
                go_quiet (fail)
                obtain ⟨wq, hwq⟩ : ∃ wq : World, wq = wi.drewN nq := ⟨_, rfl⟩
                have hbq : Below wi.heap.size wi wq := by rw [hwq]; exact bdrewN (Below.refl _ _)
                rw [← hwq]
                have HOq := Lib.hid (HOi.out.below hbq HOi.out.lt)
                have HTq := Lib.hid (HTi.out.swap.below hbq (Nat.le_refl _))
                have HKq := Lib.hid (HKi.out.below hbq)
                clear p9 p5 zP o0 y0 o5 zO hwq hbq
                have o5 : wq.cell? ⟨OB, 5, none⟩ = some v2 := HOq.out.cell 5
                have zO : OB < wq.heap.size := HOq.out.lt
                have HRd : Hid (Dat.rd (wq.alloc (.cells #[.int .i64 (l : Int), .int .i64 (t : Int)] 96)) (T2 (fun _ => False) wz.heap.size v2 v1 (wq.alloc (.cells #[.int .i64 (l : Int), .int .i64 (t : Int)] 96))) (⟨(l : Int), (t : Int)⟩ : NOne) [.int .i64 (l : Int), .int .i64 (t : Int)]) := Lib.hid ⟨rfl, ⟨by dsimp only; omega, by dsimp only; omega⟩, ⟨by dsimp only; omega, by dsimp only; omega⟩⟩
                have HCp : Hid ((ys.length + 1) * 16 ≤ 140737488355328 ∧ ys.length + 1 ≤ 9223372036854775807 ∧ wz.heap.size ≤ (wq.alloc (.cells #[.int .i64 (l : Int), .int .i64 (t : Int)] 96)).heap.size) := Lib.hid ⟨by have := HLen.out; omega, by have := HLen.out; omega, by have := HKq.out.size; simp; omega⟩
                have HNv : Hid (∀ g, v2.ownBlock = some g → wz.heap.size ≤ g ∧ g < wq.heap.size) := Lib.hid (fun g hg => HTq.out.1.block g hg)
                go_wp2_with (at_builtin; (refine wpList_two1 _ rfl _ _ elemNOne rfl rfl (HTq.out.alloc (.cells #[.int .i64 (l : Int), .int .i64 (t : Int)] 96)) (⟨(l : Int), (t : Int)⟩ : NOne) [.int .i64 (l : Int), .int .i64 (t : Int)] rfl (At.new _ _ _) HRd.out HCp.out.1 HCp.out.2.1 HCp.out.2.2 ?_); (intro v' w4 hT4 hg4 hat4); (obtain ⟨A9, k9, hv9, _⟩ := hT4.1.form); (rw [snoc_len] at hv9); (subst hv9); (have hKg : Kept (fun g => v2.ownBlock = some g) (wq.alloc (.cells #[.int .i64 (l : Int), .int .i64 (t : Int)] 96)) w4 := Kept.of_grown (X := fun g => v2.ownBlock = some g) hg4 (fun g hg => hg)); (have HO4 := Lib.hid ((HOq.out.alloc (.cells #[.int .i64 (l : Int), .int .i64 (t : Int)] 96)).kept hKg (fun h => (by have := HNv.out _ h; have := HZz.out; omega)))); (have HK4 := Lib.hid ((HKq.out.alloc (.cells #[.int .i64 (l : Int), .int .i64 (t : Int)] 96)).later hKg (fun g hg => .inr (HNv.out g hg).1))); (have HT4 := Lib.hid hT4.swap); (have o5' := HO4.out.cell 5); (have fo5 := HO4.out.frozen 5); (have zO4 := HO4.out.lt); (simp at o5'); (clear hT4 hg4 hat4 hKg))
                have HO5 := Lib.hid (HO4.out.set_ 5 (.slice A9 (ys.length + 1) k9))
                have HT5 := Lib.hid (HT4.out.set_ (p := ⟨OB, 5, none⟩) (fun h => by rcases h with h | h; exact h; have := HZz.out; dsimp only at h; omega) (.slice A9 (ys.length + 1) k9))
                have HK5 := Lib.hid (HK4.out.setCell (p := ⟨OB, 5, none⟩) (.inl rfl) (.slice A9 (ys.length + 1) k9))
                go_roundw
                case rel => exact ⟨t + 1, _, _, htn, by go_num, HO5.out, HT5.out, HYs.out, HK5.out⟩
                case measure => simp [intOf]; omega
            · have htt : t = m := by omega
              have HYs : Hid (OnW N m Y (l + 1) 0 ys) := Lib.hid (by have h := HYi.out; rw [htt] at h; exact h.nextL)
              clear htt
              go_wp2_with fail
              go_roundw
              case rel => exact ⟨l + 1, v1, v2, xs, ys, hln, by go_num, HOi.out, HTi.out, HPs.out, HYs.out, HKi.out⟩
              case measure => simp [intOf]; omega
    · have hll : l = N := by omega
      have HPs : Hid (PairsIs N X xs) := Lib.hid (by have h := HPa.out; rw [hll] at h; exact h.done)
      have HYs : Hid (OnesIs N m Y ys) := Lib.hid (by have h := HYa.out; rw [hll] at h; exact h.done)
      have HLx := Lib.hid (HPa.out.len hN9)
      have HLy := Lib.hid (HYa.out.len hN9 (by omega))
      obtain ⟨A1, c1, e1, hc1, hc1m, _⟩ := HTa.out.1.form
      obtain ⟨A2, c2, e2, hc2, hc2m, _⟩ := HTa.out.2.1.form
      subst e1; subst e2
      have HR0a := Lib.hid (HR0z.out.kept HKa.out (by have := HL3.out; omega))
      have o0 : wa.cell? ⟨OB, 0, none⟩ = some (.int .i64 (m : Int)) := HOa.out.cell 0
      have o1 : wa.cell? ⟨OB, 1, none⟩ = some (.int .i64 (N : Int)) := HOa.out.cell 1
      have o2 : wa.cell? ⟨OB, 2, none⟩ = some (.int .i64 (s : Int)) := HOa.out.cell 2
      have o3 : wa.cell? ⟨OB, 3, none⟩ = some (.bool em) := HOa.out.cell 3
      have o4 : wa.cell? ⟨OB, 4, none⟩ = some (.slice A1 xs.length c1) := HOa.out.cell 4
      have o5 : wa.cell? ⟨OB, 5, none⟩ = some (.slice A2 ys.length c2) := HOa.out.cell 5
      have zO : OB < wa.heap.size := HOa.out.lt
      have q0 := HR0a.out.cell 0
      have q1 := HR0a.out.cell 1
      have q2 := HR0a.out.cell 2
      have q3 := HR0a.out.cell 3
      have q4 := HR0a.out.cell 4
      have q5 := HR0a.out.cell 5
      have r0 := HR0a.out.frozen 0
      have r1 := HR0a.out.frozen 1
      have r2 := HR0a.out.frozen 2
      have r3 := HR0a.out.frozen 3
      have r4 := HR0a.out.frozen 4
      have r5 := HR0a.out.frozen 5
      have zR := HR0a.out.lt
      simp at q0 q1 q2 q3 q4 q5
      clear hll
      go_wp2_with fail
      generalize hwF : World.setCell _ _ _ = wF
      obtain ⟨hRF, kF⟩ := set6 HR0a.out (.int .i64 (m : Int)) (.int .i64 (N : Int)) (.int .i64 (s : Int)) (.bool em) (.slice A1 xs.length c1) (.slice A2 ys.length c2)
      rw [hwF] at hRF kF
      have u0 : wF.cell? ⟨R0, 0, none⟩ = some (.int .i64 (m : Int)) := hRF.cell 0
      have u1 : wF.cell? ⟨R0, 1, none⟩ = some (.int .i64 (N : Int)) := hRF.cell 1
      have u2 : wF.cell? ⟨R0, 2, none⟩ = some (.int .i64 (s : Int)) := hRF.cell 2
      have u3 : wF.cell? ⟨R0, 3, none⟩ = some (.bool em) := hRF.cell 3
      have u4 : wF.cell? ⟨R0, 4, none⟩ = some (.slice A1 xs.length c1) := hRF.cell 4
      have u5 : wF.cell? ⟨R0, 5, none⟩ = some (.slice A2 ys.length c2) := hRF.cell 5
      have hz1 := HZ1.out
      have hz2 := HZz.out
      have hz3 := HB3.out.size
      have hz4 := HKa.out.size
      have hE1 : Els wF (fun b => w.heap.size ≤ b ∧ b < wF.heap.size) xs A1 := ((HTa.out.vl1.els).2.2.2.kept kF (fun b hb e => by have h1 := hb.1.resolve_left id; have := HL3.out; omega)).keep (fun _ _ _ => rfl) (fun b hb => ⟨by have h1 := hb.1.resolve_left id; omega, Nat.lt_of_lt_of_le hb.2 kF.size⟩)
      have hE2 : Els wF (fun b => w.heap.size ≤ b ∧ b < wF.heap.size) ys A2 := ((HTa.out.vl2.els).2.2.2.kept kF (fun b hb e => by have h1 := hb.1.resolve_left id; have := HL3.out; omega)).keep (fun _ _ _ => rfl) (fun b hb => ⟨by have h1 := hb.1.resolve_left id; omega, Nat.lt_of_lt_of_le hb.2 kF.size⟩)
      have hBF : Below w.heap.size w wF := (HBz.out.trans (HKa.out.to_below (B := w.heap.size) (fun b hb => by omega) HBz.out.size)).trans (kF.to_below (B := w.heap.size) (fun b hb => by omega) (by omega))
      have eN := HN.out
      have hpx := HPs.out
      have hoy := HYs.out
      rw [HX.out, eN] at hpx
      rw [HY.out, eN] at hoy
      exact bodyPost_ret (v := .tuple #[.agg #[.int .i64 (m : Int), .int .i64 (N : Int), .int .i64 (s : Int), .bool em, .slice A1 xs.length c1, .slice A2 ys.length c2], .int .i64 0]) (by simp [results, Tryd.results10, go_sem, u0, u1, u2, u3, u4, u5]) rfl ⟨A1, c1, A2, c2, em, xs, ys, by rw [eN], HEm.out, hpx, hoy, HLx.out, HLy.out, hc1, hc1m, hc2, hc2m, hE1, hE2, hBF⟩
end Go.Proofs.YtecofoilghdedaaDoor
