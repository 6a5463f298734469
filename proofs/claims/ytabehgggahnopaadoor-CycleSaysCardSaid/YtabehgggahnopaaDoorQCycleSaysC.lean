/- The law CycleSays: the walk. -/
import Derived.Test.YtabehgggahnopaaDoorQCycSaysP
import Derived.Test.YtabehgggahnopaaDoorQCycBad
import Derived.Test.YtabehgggahnopaaDoorQCycLeft
import Derived.Test.YtabehgggahnopaaDoorQCyclic
import Derived.Test.YtabehgggahnopaaDoorQRLeft
import Derived.Test.YtabehgggahnopaaDoorQSimple
import Derived.Test.YtabehgggahnopaaDoorQGramErr
import Derived.Test.YtabehgggahnopaaDoorQEqInt
import Derived.Test.YtabehgggahnopaaDoorQEqBoolB
import Derived.Test.YtabehgggahnopaaDoorQp1
namespace Go.Proofs.YtabehgggahnopaaDoor
open Go.RowKit
set_option linter.unusedVariables false

theorem els_bcellz {w : World} {S : Nat → Prop} {g : Nat} {t : TypeId} {ms : List Bool} (hb : Blk' w g t (bcells ms)) (hS : S g) : Els w S ms (some ⟨g, 0, none⟩) :=
  fun _ => ⟨g, 0, rfl, hS, fun i x hi => ⟨[.bool x], rfl, fun j u hu => by
    match j, hu with
    | 0, hu =>
      simp at hu; subst hu
      have e : 0 + i * Dat.size Bool + 0 = i := by show 0 + i * 1 + 0 = i; omega
      rw [e, hb.cell]
      exact bcells_get hi⟩⟩

theorem simple_left {l : List Int} (h : FiltIs (fun j => Plus (LedE simpleG) j j) 1 l) : l = [0] := by
  obtain ⟨a, ha, h⟩ := h
  have e : a = [] := ha
  subst e
  rcases h with ⟨_, h⟩ | ⟨h, _⟩
  · exact h
  · exact absurd (Plus.one 0 ⟨⟨0, [⟨false, 0⟩, ⟨true, 0⟩]⟩, by simp [simpleG], rfl, 0, rfl, fun x hx => by simp at hx⟩) h

set_option maxRecDepth 100000 in
set_option maxHeartbeats 16000000 in
theorem cycleSays_any (g : Gram) (A : Option Addr) (c : Nat) (S : Nat → Prop) (w : World) (h64 : I64 g.terms ∧ I64 g.nons ∧ I64 g.start) (hlc : g.rules.length ≤ c) (hc : c ≤ 9223372036854775807) (hA : Els w S g.rules A) (hS : ∀ b, S b → b < w.heap.size) :
    Calls Tryd.prog 6 #[.agg #[.int .i64 g.terms, .int .i64 g.nons, .int .i64 g.start, .slice A g.rules.length c]] w fun e w' => e = .returned (.bool true) ∧ Below w.heap.size w w' := by
  have HI := Lib.hid h64
  have HS := Lib.hid hS
  obtain ⟨gt, gn, gs, rs⟩ := g
  dsimp only at *
  clear h64
  have KE_0 : Hid (Els w S rs A) := Lib.hid (hA)
  clear hA hS
  obtain ⟨w_1, hww_1⟩ : ∃ w_1 : World, w_1 = w.alloc (.cells #[.int .i64 gt, .int .i64 gn, .int .i64 gs, .slice A rs.length c] 25) := ⟨_, rfl⟩
  have hbw_1 : Below w.heap.size w w_1 := by rw [hww_1]; exact (Below.refl _ _).alloc (by first | exact Nat.le_refl _ | (simp; done) | (simp; omega)) _
  have sqw_1 : w_1.heap.size = w.heap.size + 1 := by rw [hww_1]; simp
  have KE_1 : Hid (Els w_1 S rs A) := Lib.hid (KE_0.out.below hbw_1)
  have QB_1 : Hid (Below w.heap.size w w_1) := Lib.hid (hbw_1)
  have sz_1 : w.heap.size + 1 ≤ w_1.heap.size := by rw [sqw_1]; exact Nat.le_refl _
  have KG_1 : Hid (Blk' w_1 (w.heap.size) 25 #[.int .i64 gt, .int .i64 gn, .int .i64 gs, .slice A rs.length c]) := Lib.hid (by rw [hww_1]; exact Blk'.new w _ _)
  have HWw_1 := Lib.hid hww_1
  have SQw_1 := Lib.hid sqw_1
  clear hww_1 hbw_1 sqw_1
  clear KE_0
  go_enter Tryd.func6, Tryd.ntmps6
  go_upto_region 1 with (fail)
  rw [← HWw_1.out]
  go_wp2_with fail
  refine (simple_any _).mono ?_
  rintro e w_2 ⟨As, rfl, hEs, hbz⟩
  have HEs := Lib.hid hEs
  clear hEs
  have KE_2 : Hid (Els w_2 S rs A) := Lib.hid (KE_1.out.below hbz)
  have KG_2 : Hid (Blk' w_2 (w.heap.size) 25 #[.int .i64 gt, .int .i64 gn, .int .i64 gs, .slice A rs.length c]) := Lib.hid (KG_1.out.below hbz KG_1.out.lt)
  have QB_2 : Hid (Below w.heap.size w w_2) := Lib.hid (bthen QB_1.out hbz QB_1.out.size)
  have sz_2 : w_1.heap.size ≤ w_2.heap.size := (hbz).size
  clear hbz
  clear KE_1 KG_1 QB_1
  go_wp2_with fail
  refine (left_any simpleG 1 1 As 2 _ _ rfl rfl simpleC (by decide) (by omega) HEs.out (fun b hb => hb.2)).mono ?_
  rintro e w_3 ⟨vL, lL, rfl, hfL, hownL, hbz⟩
  obtain rfl := simple_left hfL
  obtain ⟨AL, cL, rfl, _, _, _⟩ := hownL.form
  have KE_3 : Hid (Els w_3 S rs A) := Lib.hid (KE_2.out.below hbz)
  have KG_3 : Hid (Blk' w_3 (w.heap.size) 25 #[.int .i64 gt, .int .i64 gn, .int .i64 gs, .slice A rs.length c]) := Lib.hid (KG_2.out.below hbz KG_2.out.lt)
  have QB_3 : Hid (Below w.heap.size w w_3) := Lib.hid (bthen QB_2.out hbz QB_2.out.size)
  have sz_3 : w_2.heap.size ≤ w_3.heap.size := (hbz).size
  clear hbz
  clear KE_2 KG_2 QB_2
  have KEL_3 : Hid (Els w_3 (fun b => b < w_3.heap.size) [(0 : Int)] AL) := Lib.hid (hownL.vl.els.2.2.2.keep (fun _ _ _ => rfl) (fun _ h => h.2))
  clear hfL hownL
  obtain ⟨w_4, hww_4⟩ : ∃ w_4 : World, w_4 = w_3.alloc (.cells #[.int .i64 0] 3) := ⟨_, rfl⟩
  have hbw_4 : Below w_3.heap.size w_3 w_4 := by rw [hww_4]; exact (Below.refl _ _).alloc (by first | exact Nat.le_refl _ | (simp; done) | (simp; omega)) _
  have sqw_4 : w_4.heap.size = w_3.heap.size + 1 := by rw [hww_4]; simp
  have KE_4 : Hid (Els w_4 S rs A) := Lib.hid (KE_3.out.below hbw_4)
  have KG_4 : Hid (Blk' w_4 (w.heap.size) 25 #[.int .i64 gt, .int .i64 gn, .int .i64 gs, .slice A rs.length c]) := Lib.hid (KG_3.out.below hbw_4 KG_3.out.lt)
  have KEL_4 : Hid (Els w_4 (fun b => b < w_3.heap.size) [(0 : Int)] AL) := Lib.hid (KEL_3.out.below hbw_4)
  have QB_4 : Hid (Below w.heap.size w w_4) := Lib.hid (bthen QB_3.out hbw_4 QB_3.out.size)
  have sz_4 : w_3.heap.size + 1 ≤ w_4.heap.size := by rw [sqw_4]; exact Nat.le_refl _
  have KZ_4 : Hid (Blk' w_4 (w_3.heap.size) 3 #[.int .i64 0]) := Lib.hid (by rw [hww_4]; exact Blk'.new w_3 _ _)
  have HWw_4 := Lib.hid hww_4
  have SQw_4 := Lib.hid sqw_4
  clear hww_4 hbw_4 sqw_4
  clear KE_3 KG_3 KEL_3 QB_3
  go_wp2_with fail
  rw [← HWw_4.out]
  have HZ : Hid (Els w_4 (fun b => b = w_3.heap.size) [(0 : Int)] (some ⟨w_3.heap.size, 0, none⟩)) := Lib.hid (els_of_blk [[.int .i64 0]] KZ_4.out rfl rfl (rd_one ⟨rfl, (by show I64 0; unfold I64; omega)⟩) rfl)
  refine (equalInt_any AL (some ⟨w_3.heap.size, 0, none⟩) [0] [0] 1 1 _ _ _ _ w_4 rfl rfl (by simp) (by simp) KEL_4.out HZ.out).mono ?_
  rintro e w_5 ⟨rfl, hbz⟩
  have KE_5 : Hid (Els w_5 S rs A) := Lib.hid (KE_4.out.below hbz)
  have KG_5 : Hid (Blk' w_5 (w.heap.size) 25 #[.int .i64 gt, .int .i64 gn, .int .i64 gs, .slice A rs.length c]) := Lib.hid (KG_4.out.below hbz KG_4.out.lt)
  have KEL_5 : Hid (Els w_5 (fun b => b < w_3.heap.size) [(0 : Int)] AL) := Lib.hid (KEL_4.out.below hbz)
  have KZ_5 : Hid (Blk' w_5 (w_3.heap.size) 3 #[.int .i64 0]) := Lib.hid (KZ_4.out.below hbz KZ_4.out.lt)
  have QB_5 : Hid (Below w.heap.size w w_5) := Lib.hid (bthen QB_4.out hbz QB_4.out.size)
  have sz_5 : w_4.heap.size ≤ w_5.heap.size := (hbz).size
  clear hbz
  clear KE_4 KG_4 KEL_4 KZ_4 QB_4
  obtain ⟨tb, htb⟩ : ∃ tb, tb = decide ([(0 : Int)] = [(0 : Int)]) := ⟨_, rfl⟩
  rw [← htb]
  have htb2 : tb = true := by rw [htb]; rfl
  subst htb2
  clear htb
  by_cases hck : checkI ⟨gt, gn, gs, rs⟩ = 0
  · skip
    have hv := validG_of hck
    have hri0 : ∀ q ∈ rs, q.right.length ≤ 4 := fun q hq => (hv.rules q hq).2.2.1
    have hb1 := hv.t1
    have hb2 := hv.t8
    have hb3 := hv.n1
    have hb4 := hv.n10
    dsimp only at hb1 hb2 hb3 hb4
    obtain ⟨m, rfl⟩ : ∃ m : Nat, gt = (m : Int) := ⟨gt.toNat, by omega⟩
    obtain ⟨n, rfl⟩ : ∃ n : Nat, gn = (n : Int) := ⟨gn.toNat, by omega⟩
    have HPI := Lib.hid (passIn_of hv (n := n) rfl)
    obtain ⟨L, hL⟩ := lfix_ex ⟨(m : Int), (n : Int), gs, rs⟩ n (by omega) (fun q hq => ⟨by have h1 := hv.rules q hq; have h2 := h1.1; have h3 := h1.2.1; dsimp only at h3; omega, hri0 q hq⟩)
    have HL := Lib.hid hL
    have HC := Lib.hid hck
    have hn10 : n ≤ 10 := by omega
    clear hv hri0 hL hck hb1 hb2 hb3 hb4
    have cG_5_0 : w_5.cell? ⟨w.heap.size, 0, none⟩ = some (.int .i64 (m : Int)) := KG_5.out.cell 0
    have cG_5_1 : w_5.cell? ⟨w.heap.size, 1, none⟩ = some (.int .i64 (n : Int)) := KG_5.out.cell 1
    have cG_5_2 : w_5.cell? ⟨w.heap.size, 2, none⟩ = some (.int .i64 gs) := KG_5.out.cell 2
    have cG_5_3 : w_5.cell? ⟨w.heap.size, 3, none⟩ = some (.slice A rs.length c) := KG_5.out.cell 3
    have zG_5 : w.heap.size < w_5.heap.size := KG_5.out.lt
    go_wp2_with fail
    refine (cyclic_any ⟨(m : Int), (n : Int), gs, rs⟩ m n A c S _ rfl rfl HC.out hlc hc KE_5.out (fun b hb => by have := HS.out b hb; omega)).mono ?_
    rintro e w_6 hcyc
    have hbz : Below w_5.heap.size w_5 w_6 := by rcases hcyc with ⟨_, _, h⟩ | ⟨_, _, _, _, _, _, _, _, _, h⟩ <;> exact h
    clear cG_5_0 cG_5_1 cG_5_2 cG_5_3 zG_5
    have KE_6 : Hid (Els w_6 S rs A) := Lib.hid (KE_5.out.below hbz)
    have KG_6 : Hid (Blk' w_6 (w.heap.size) 25 #[.int .i64 (m : Int), .int .i64 (n : Int), .int .i64 gs, .slice A rs.length c]) := Lib.hid (KG_5.out.below hbz KG_5.out.lt)
    have QB_6 : Hid (Below w.heap.size w w_6) := Lib.hid (bthen QB_5.out hbz QB_5.out.size)
    have sz_6 : w_5.heap.size ≤ w_6.heap.size := (hbz).size
    clear hbz
    clear KE_5 KG_5 QB_5
    rcases hcyc with ⟨rfl, hno, _⟩ | ⟨ba, ca, kA, iA, qA, lA, rfl, hcF, hownA, _⟩
    · skip
      have Hno := Lib.hid hno
      clear hno
      have cG_6_0 : w_6.cell? ⟨w.heap.size, 0, none⟩ = some (.int .i64 (m : Int)) := KG_6.out.cell 0
      have cG_6_1 : w_6.cell? ⟨w.heap.size, 1, none⟩ = some (.int .i64 (n : Int)) := KG_6.out.cell 1
      have cG_6_2 : w_6.cell? ⟨w.heap.size, 2, none⟩ = some (.int .i64 gs) := KG_6.out.cell 2
      have cG_6_3 : w_6.cell? ⟨w.heap.size, 3, none⟩ = some (.slice A rs.length c) := KG_6.out.cell 3
      have zG_6 : w.heap.size < w_6.heap.size := KG_6.out.lt
      go_wp2_with fail
      refine (loops_any ⟨(m : Int), (n : Int), gs, rs⟩ m n A c S _ rfl rfl HC.out hlc hc KE_6.out (fun b hb => by have := HS.out b hb; omega)).mono ?_
      rintro e w_7 ⟨vB, lB, rfl, hLp, hownB, hbz⟩
      obtain ⟨AB, cB, rfl, _, _, _⟩ := hownB.form
      have hlB : lB.length = n := hLp.1
      clear cG_6_0 cG_6_1 cG_6_2 cG_6_3 zG_6
      have KE_7 : Hid (Els w_7 S rs A) := Lib.hid (KE_6.out.below hbz)
      have KG_7 : Hid (Blk' w_7 (w.heap.size) 25 #[.int .i64 (m : Int), .int .i64 (n : Int), .int .i64 gs, .slice A rs.length c]) := Lib.hid (KG_6.out.below hbz KG_6.out.lt)
      have QB_7 : Hid (Below w.heap.size w w_7) := Lib.hid (bthen QB_6.out hbz QB_6.out.size)
      have sz_7 : w_6.heap.size ≤ w_7.heap.size := (hbz).size
      clear hbz
      clear KE_6 KG_6 QB_6
      have KEB_7 : Hid (Els w_7 (fun b => b < w_7.heap.size) lB AB) := Lib.hid (hownB.vl.els.2.2.2.keep (fun _ _ _ => rfl) (fun _ h => h.2))
      have HLp := Lib.hid hLp
      have hlB2 : lB.length ≤ 10 := by omega
      clear hownB hLp hlB
      have cG_7_0 : w_7.cell? ⟨w.heap.size, 0, none⟩ = some (.int .i64 (m : Int)) := KG_7.out.cell 0
      have cG_7_1 : w_7.cell? ⟨w.heap.size, 1, none⟩ = some (.int .i64 (n : Int)) := KG_7.out.cell 1
      have cG_7_2 : w_7.cell? ⟨w.heap.size, 2, none⟩ = some (.int .i64 gs) := KG_7.out.cell 2
      have cG_7_3 : w_7.cell? ⟨w.heap.size, 3, none⟩ = some (.slice A rs.length c) := KG_7.out.cell 3
      have zG_7 : w.heap.size < w_7.heap.size := KG_7.out.lt
      go_wp2_with fail
      refine (left_any ⟨(m : Int), (n : Int), gs, rs⟩ m n A c S _ rfl rfl HC.out hlc hc KE_7.out (fun b hb => by have := HS.out b hb; omega)).mono ?_
      rintro e w_8 ⟨vC, lC, rfl, hFC, hownC, hbz⟩
      obtain ⟨AC, cC, rfl, _, _, _⟩ := hownC.form
      have hlC : lC.length ≤ 10 := by have := hFC.len; omega
      clear cG_7_0 cG_7_1 cG_7_2 cG_7_3 zG_7
      have KE_8 : Hid (Els w_8 S rs A) := Lib.hid (KE_7.out.below hbz)
      have KG_8 : Hid (Blk' w_8 (w.heap.size) 25 #[.int .i64 (m : Int), .int .i64 (n : Int), .int .i64 gs, .slice A rs.length c]) := Lib.hid (KG_7.out.below hbz KG_7.out.lt)
      have KEB_8 : Hid (Els w_8 (fun b => b < w_7.heap.size) lB AB) := Lib.hid (KEB_7.out.below hbz)
      have QB_8 : Hid (Below w.heap.size w w_8) := Lib.hid (bthen QB_7.out hbz QB_7.out.size)
      have sz_8 : w_7.heap.size ≤ w_8.heap.size := (hbz).size
      clear hbz
      clear KE_7 KG_7 KEB_7 QB_7
      have KEC_8 : Hid (Els w_8 (fun b => b < w_8.heap.size) lC AC) := Lib.hid (hownC.vl.els.2.2.2.keep (fun _ _ _ => rfl) (fun _ h => h.2))
      have HFC := Lib.hid hFC
      clear hownC hFC
      have cG_8_0 : w_8.cell? ⟨w.heap.size, 0, none⟩ = some (.int .i64 (m : Int)) := KG_8.out.cell 0
      have cG_8_1 : w_8.cell? ⟨w.heap.size, 1, none⟩ = some (.int .i64 (n : Int)) := KG_8.out.cell 1
      have cG_8_2 : w_8.cell? ⟨w.heap.size, 2, none⟩ = some (.int .i64 gs) := KG_8.out.cell 2
      have cG_8_3 : w_8.cell? ⟨w.heap.size, 3, none⟩ = some (.slice A rs.length c) := KG_8.out.cell 3
      have zG_8 : w.heap.size < w_8.heap.size := KG_8.out.lt
      go_wp2_with fail
      refine (gramErr_any ⟨(m : Int), (n : Int), gs, rs⟩ A c S _ HI.out hlc hc KE_8.out (fun b hb => by have := HS.out b hb; omega)).mono ?_
      rintro e w_9 ⟨rfl, hbz⟩
      clear cG_8_0 cG_8_1 cG_8_2 cG_8_3 zG_8
      have KE_9 : Hid (Els w_9 S rs A) := Lib.hid (KE_8.out.below hbz)
      have KG_9 : Hid (Blk' w_9 (w.heap.size) 25 #[.int .i64 (m : Int), .int .i64 (n : Int), .int .i64 gs, .slice A rs.length c]) := Lib.hid (KG_8.out.below hbz KG_8.out.lt)
      have KEB_9 : Hid (Els w_9 (fun b => b < w_7.heap.size) lB AB) := Lib.hid (KEB_8.out.below hbz)
      have KEC_9 : Hid (Els w_9 (fun b => b < w_8.heap.size) lC AC) := Lib.hid (KEC_8.out.below hbz)
      have QB_9 : Hid (Below w.heap.size w w_9) := Lib.hid (bthen QB_8.out hbz QB_8.out.size)
      have sz_9 : w_8.heap.size ≤ w_9.heap.size := (hbz).size
      clear hbz
      clear KE_8 KG_8 KEB_8 KEC_8 QB_8
      rw [HC.out]
      have cG_9_0 : w_9.cell? ⟨w.heap.size, 0, none⟩ = some (.int .i64 (m : Int)) := KG_9.out.cell 0
      have cG_9_1 : w_9.cell? ⟨w.heap.size, 1, none⟩ = some (.int .i64 (n : Int)) := KG_9.out.cell 1
      have cG_9_2 : w_9.cell? ⟨w.heap.size, 2, none⟩ = some (.int .i64 gs) := KG_9.out.cell 2
      have cG_9_3 : w_9.cell? ⟨w.heap.size, 3, none⟩ = some (.slice A rs.length c) := KG_9.out.cell 3
      have zG_9 : w.heap.size < w_9.heap.size := KG_9.out.lt
      go_wp2_with fail
      refine (rloops_any ⟨(m : Int), (n : Int), gs, rs⟩ m n A c S _ L rfl rfl HC.out hlc hc KE_9.out (fun b hb => by have := HS.out b hb; omega) HL.out).mono ?_
      rintro e w_10 ⟨O, row, rfl, hrl, hO, hrow, hO0, hbz⟩
      have hrow2 := loops_eq HPI.out HLp.out hrl hrow
      subst hrow2
      have hEO := els_bcellz (S := fun b => b = O) hO rfl
      clear cG_9_0 cG_9_1 cG_9_2 cG_9_3 zG_9
      have KE_10 : Hid (Els w_10 S rs A) := Lib.hid (KE_9.out.below hbz)
      have KG_10 : Hid (Blk' w_10 (w.heap.size) 25 #[.int .i64 (m : Int), .int .i64 (n : Int), .int .i64 gs, .slice A rs.length c]) := Lib.hid (KG_9.out.below hbz KG_9.out.lt)
      have KEB_10 : Hid (Els w_10 (fun b => b < w_7.heap.size) lB AB) := Lib.hid (KEB_9.out.below hbz)
      have KEC_10 : Hid (Els w_10 (fun b => b < w_8.heap.size) lC AC) := Lib.hid (KEC_9.out.below hbz)
      have QB_10 : Hid (Below w.heap.size w w_10) := Lib.hid (bthen QB_9.out hbz QB_9.out.size)
      have sz_10 : w_9.heap.size ≤ w_10.heap.size := (hbz).size
      clear hbz
      clear KE_9 KG_9 KEB_9 KEC_9 QB_9
      have KEO_10 : Hid (Els w_10 (fun b => b < w_10.heap.size) lB (some ⟨O, 0, none⟩)) := Lib.hid (hEO.keep (fun _ _ _ => rfl) (fun b (h : b = O) => by have := hO.lt; omega))
      clear hEO hO hrow hO0
      go_wp2_with fail
      refine (equalBool_any AB (some ⟨O, 0, none⟩) lB lB n n _ _ _ _ w_10 hrl.symm hrl.symm (by omega) (by omega) KEB_10.out KEO_10.out).mono ?_
      rintro e w_11 ⟨rfl, hbz⟩
      have KE_11 : Hid (Els w_11 S rs A) := Lib.hid (KE_10.out.below hbz)
      have KG_11 : Hid (Blk' w_11 (w.heap.size) 25 #[.int .i64 (m : Int), .int .i64 (n : Int), .int .i64 gs, .slice A rs.length c]) := Lib.hid (KG_10.out.below hbz KG_10.out.lt)
      have KEB_11 : Hid (Els w_11 (fun b => b < w_7.heap.size) lB AB) := Lib.hid (KEB_10.out.below hbz)
      have KEC_11 : Hid (Els w_11 (fun b => b < w_8.heap.size) lC AC) := Lib.hid (KEC_10.out.below hbz)
      have KEO_11 : Hid (Els w_11 (fun b => b < w_10.heap.size) lB (some ⟨O, 0, none⟩)) := Lib.hid (KEO_10.out.below hbz)
      have QB_11 : Hid (Below w.heap.size w w_11) := Lib.hid (bthen QB_10.out hbz QB_10.out.size)
      have sz_11 : w_10.heap.size ≤ w_11.heap.size := (hbz).size
      clear hbz
      clear KE_10 KG_10 KEB_10 KEC_10 KEO_10 QB_10
      obtain ⟨tb, htb⟩ : ∃ tb, tb = decide (lB = lB) := ⟨_, rfl⟩
      rw [← htb]
      have htb2 : tb = true := by rw [htb]; simp
      subst htb2
      clear htb
      have cG_11_0 : w_11.cell? ⟨w.heap.size, 0, none⟩ = some (.int .i64 (m : Int)) := KG_11.out.cell 0
      have cG_11_1 : w_11.cell? ⟨w.heap.size, 1, none⟩ = some (.int .i64 (n : Int)) := KG_11.out.cell 1
      have cG_11_2 : w_11.cell? ⟨w.heap.size, 2, none⟩ = some (.int .i64 gs) := KG_11.out.cell 2
      have cG_11_3 : w_11.cell? ⟨w.heap.size, 3, none⟩ = some (.slice A rs.length c) := KG_11.out.cell 3
      have zG_11 : w.heap.size < w_11.heap.size := KG_11.out.lt
      go_wp2_with fail
      refine (rleft_any ⟨(m : Int), (n : Int), gs, rs⟩ m n A c S _ L rfl rfl HC.out hlc hc KE_11.out (fun b hb => by have := HS.out b hb; omega) HL.out).mono ?_
      rintro e w_12 ⟨vD, lD, rfl, hFD, hownD, hbz⟩
      obtain ⟨AD, cD, rfl, _, _, _⟩ := hownD.form
      have hDC := HFC.out.uniq n _ _ hFD
      subst hDC
      clear cG_11_0 cG_11_1 cG_11_2 cG_11_3 zG_11
      have KE_12 : Hid (Els w_12 S rs A) := Lib.hid (KE_11.out.below hbz)
      have KG_12 : Hid (Blk' w_12 (w.heap.size) 25 #[.int .i64 (m : Int), .int .i64 (n : Int), .int .i64 gs, .slice A rs.length c]) := Lib.hid (KG_11.out.below hbz KG_11.out.lt)
      have KEC_12 : Hid (Els w_12 (fun b => b < w_8.heap.size) lC AC) := Lib.hid (KEC_11.out.below hbz)
      have QB_12 : Hid (Below w.heap.size w w_12) := Lib.hid (bthen QB_11.out hbz QB_11.out.size)
      have sz_12 : w_11.heap.size ≤ w_12.heap.size := (hbz).size
      clear hbz
      clear KE_11 KG_11 KEC_11 QB_11
      have KED_12 : Hid (Els w_12 (fun b => b < w_12.heap.size) lC AD) := Lib.hid (hownD.vl.els.2.2.2.keep (fun _ _ _ => rfl) (fun _ h => h.2))
      clear hownD hFD
      go_wp2_with fail
      refine (equalInt_any AC AD lC lC _ _ _ _ _ _ w_12 rfl rfl (by omega) (by omega) KEC_12.out KED_12.out).mono ?_
      rintro e w_13 ⟨rfl, hbz⟩
      have KE_13 : Hid (Els w_13 S rs A) := Lib.hid (KE_12.out.below hbz)
      have KG_13 : Hid (Blk' w_13 (w.heap.size) 25 #[.int .i64 (m : Int), .int .i64 (n : Int), .int .i64 gs, .slice A rs.length c]) := Lib.hid (KG_12.out.below hbz KG_12.out.lt)
      have KEC_13 : Hid (Els w_13 (fun b => b < w_8.heap.size) lC AC) := Lib.hid (KEC_12.out.below hbz)
      have KED_13 : Hid (Els w_13 (fun b => b < w_12.heap.size) lC AD) := Lib.hid (KED_12.out.below hbz)
      have QB_13 : Hid (Below w.heap.size w w_13) := Lib.hid (bthen QB_12.out hbz QB_12.out.size)
      have sz_13 : w_12.heap.size ≤ w_13.heap.size := (hbz).size
      clear hbz
      clear KE_12 KG_12 KEC_12 KED_12 QB_12
      obtain ⟨tc, htc⟩ : ∃ tc, tc = decide (lC = lC) := ⟨_, rfl⟩
      rw [← htc]
      have htc2 : tc = true := by rw [htc]; simp
      subst htc2
      clear htc
      have cG_13_0 : w_13.cell? ⟨w.heap.size, 0, none⟩ = some (.int .i64 (m : Int)) := KG_13.out.cell 0
      have cG_13_1 : w_13.cell? ⟨w.heap.size, 1, none⟩ = some (.int .i64 (n : Int)) := KG_13.out.cell 1
      have cG_13_2 : w_13.cell? ⟨w.heap.size, 2, none⟩ = some (.int .i64 gs) := KG_13.out.cell 2
      have cG_13_3 : w_13.cell? ⟨w.heap.size, 3, none⟩ = some (.slice A rs.length c) := KG_13.out.cell 3
      have zG_13 : w.heap.size < w_13.heap.size := KG_13.out.lt
      go_wp2_with fail
      refine (rcycle_any ⟨(m : Int), (n : Int), gs, rs⟩ m n A c S _ L rfl rfl HC.out hlc hc KE_13.out (fun b hb => by have := HS.out b hb; omega) HL.out).mono ?_
      rintro e w_14 hrc
      have hbz : Below w_13.heap.size w_13 w_14 := by rcases hrc with ⟨_, _, h⟩ | ⟨_, _, _, _, _, _, _, _, h⟩ <;> exact h
      clear cG_13_0 cG_13_1 cG_13_2 cG_13_3 zG_13
      have KE_14 : Hid (Els w_14 S rs A) := Lib.hid (KE_13.out.below hbz)
      have KG_14 : Hid (Blk' w_14 (w.heap.size) 25 #[.int .i64 (m : Int), .int .i64 (n : Int), .int .i64 gs, .slice A rs.length c]) := Lib.hid (KG_13.out.below hbz KG_13.out.lt)
      have QB_14 : Hid (Below w.heap.size w w_14) := Lib.hid (bthen QB_13.out hbz QB_13.out.size)
      have sz_14 : w_13.heap.size ≤ w_14.heap.size := (hbz).size
      clear hbz
      clear KE_13 KG_13 QB_13
      rcases hrc with ⟨rfl, hno2, _⟩ | ⟨kD, iD, qD, lE, vE, rfl, hcD, hownE, _⟩
      · go_wp2
        go_ret
        exact ⟨rfl, QB_14.out⟩
      · exact absurd Hno.out hcD.no
    · skip
      have KEA_6 : Hid (Els w_6 (fun b => b < w_6.heap.size) lA (some ⟨ba, 0, none⟩)) := Lib.hid (hownA.vl.els.2.2.2.keep (fun _ _ _ => rfl) (fun _ h => h.2))
      have HcF := Lib.hid hcF
      have hlA : lA.length ≤ 11 := by have h1 := hcF.way.len; have h2 := hcF.k1; omega
      clear hcF hownA
      have cG_6_0 : w_6.cell? ⟨w.heap.size, 0, none⟩ = some (.int .i64 (m : Int)) := KG_6.out.cell 0
      have cG_6_1 : w_6.cell? ⟨w.heap.size, 1, none⟩ = some (.int .i64 (n : Int)) := KG_6.out.cell 1
      have cG_6_2 : w_6.cell? ⟨w.heap.size, 2, none⟩ = some (.int .i64 gs) := KG_6.out.cell 2
      have cG_6_3 : w_6.cell? ⟨w.heap.size, 3, none⟩ = some (.slice A rs.length c) := KG_6.out.cell 3
      have zG_6 : w.heap.size < w_6.heap.size := KG_6.out.lt
      go_wp2_with fail
      refine (loops_any ⟨(m : Int), (n : Int), gs, rs⟩ m n A c S _ rfl rfl HC.out hlc hc KE_6.out (fun b hb => by have := HS.out b hb; omega)).mono ?_
      rintro e w_7 ⟨vB, lB, rfl, hLp, hownB, hbz⟩
      obtain ⟨AB, cB, rfl, _, _, _⟩ := hownB.form
      have hlB : lB.length = n := hLp.1
      clear cG_6_0 cG_6_1 cG_6_2 cG_6_3 zG_6
      have KE_7 : Hid (Els w_7 S rs A) := Lib.hid (KE_6.out.below hbz)
      have KG_7 : Hid (Blk' w_7 (w.heap.size) 25 #[.int .i64 (m : Int), .int .i64 (n : Int), .int .i64 gs, .slice A rs.length c]) := Lib.hid (KG_6.out.below hbz KG_6.out.lt)
      have KEA_7 : Hid (Els w_7 (fun b => b < w_6.heap.size) lA (some ⟨ba, 0, none⟩)) := Lib.hid (KEA_6.out.below hbz)
      have QB_7 : Hid (Below w.heap.size w w_7) := Lib.hid (bthen QB_6.out hbz QB_6.out.size)
      have sz_7 : w_6.heap.size ≤ w_7.heap.size := (hbz).size
      clear hbz
      clear KE_6 KG_6 KEA_6 QB_6
      have KEB_7 : Hid (Els w_7 (fun b => b < w_7.heap.size) lB AB) := Lib.hid (hownB.vl.els.2.2.2.keep (fun _ _ _ => rfl) (fun _ h => h.2))
      have HLp := Lib.hid hLp
      have hlB2 : lB.length ≤ 10 := by omega
      clear hownB hLp hlB
      have cG_7_0 : w_7.cell? ⟨w.heap.size, 0, none⟩ = some (.int .i64 (m : Int)) := KG_7.out.cell 0
      have cG_7_1 : w_7.cell? ⟨w.heap.size, 1, none⟩ = some (.int .i64 (n : Int)) := KG_7.out.cell 1
      have cG_7_2 : w_7.cell? ⟨w.heap.size, 2, none⟩ = some (.int .i64 gs) := KG_7.out.cell 2
      have cG_7_3 : w_7.cell? ⟨w.heap.size, 3, none⟩ = some (.slice A rs.length c) := KG_7.out.cell 3
      have zG_7 : w.heap.size < w_7.heap.size := KG_7.out.lt
      go_wp2_with fail
      refine (left_any ⟨(m : Int), (n : Int), gs, rs⟩ m n A c S _ rfl rfl HC.out hlc hc KE_7.out (fun b hb => by have := HS.out b hb; omega)).mono ?_
      rintro e w_8 ⟨vC, lC, rfl, hFC, hownC, hbz⟩
      obtain ⟨AC, cC, rfl, _, _, _⟩ := hownC.form
      have hlC : lC.length ≤ 10 := by have := hFC.len; omega
      clear cG_7_0 cG_7_1 cG_7_2 cG_7_3 zG_7
      have KE_8 : Hid (Els w_8 S rs A) := Lib.hid (KE_7.out.below hbz)
      have KG_8 : Hid (Blk' w_8 (w.heap.size) 25 #[.int .i64 (m : Int), .int .i64 (n : Int), .int .i64 gs, .slice A rs.length c]) := Lib.hid (KG_7.out.below hbz KG_7.out.lt)
      have KEA_8 : Hid (Els w_8 (fun b => b < w_6.heap.size) lA (some ⟨ba, 0, none⟩)) := Lib.hid (KEA_7.out.below hbz)
      have KEB_8 : Hid (Els w_8 (fun b => b < w_7.heap.size) lB AB) := Lib.hid (KEB_7.out.below hbz)
      have QB_8 : Hid (Below w.heap.size w w_8) := Lib.hid (bthen QB_7.out hbz QB_7.out.size)
      have sz_8 : w_7.heap.size ≤ w_8.heap.size := (hbz).size
      clear hbz
      clear KE_7 KG_7 KEA_7 KEB_7 QB_7
      have KEC_8 : Hid (Els w_8 (fun b => b < w_8.heap.size) lC AC) := Lib.hid (hownC.vl.els.2.2.2.keep (fun _ _ _ => rfl) (fun _ h => h.2))
      have HFC := Lib.hid hFC
      clear hownC hFC
      have cG_8_0 : w_8.cell? ⟨w.heap.size, 0, none⟩ = some (.int .i64 (m : Int)) := KG_8.out.cell 0
      have cG_8_1 : w_8.cell? ⟨w.heap.size, 1, none⟩ = some (.int .i64 (n : Int)) := KG_8.out.cell 1
      have cG_8_2 : w_8.cell? ⟨w.heap.size, 2, none⟩ = some (.int .i64 gs) := KG_8.out.cell 2
      have cG_8_3 : w_8.cell? ⟨w.heap.size, 3, none⟩ = some (.slice A rs.length c) := KG_8.out.cell 3
      have zG_8 : w.heap.size < w_8.heap.size := KG_8.out.lt
      go_wp2_with fail
      refine (gramErr_any ⟨(m : Int), (n : Int), gs, rs⟩ A c S _ HI.out hlc hc KE_8.out (fun b hb => by have := HS.out b hb; omega)).mono ?_
      rintro e w_9 ⟨rfl, hbz⟩
      clear cG_8_0 cG_8_1 cG_8_2 cG_8_3 zG_8
      have KE_9 : Hid (Els w_9 S rs A) := Lib.hid (KE_8.out.below hbz)
      have KG_9 : Hid (Blk' w_9 (w.heap.size) 25 #[.int .i64 (m : Int), .int .i64 (n : Int), .int .i64 gs, .slice A rs.length c]) := Lib.hid (KG_8.out.below hbz KG_8.out.lt)
      have KEA_9 : Hid (Els w_9 (fun b => b < w_6.heap.size) lA (some ⟨ba, 0, none⟩)) := Lib.hid (KEA_8.out.below hbz)
      have KEB_9 : Hid (Els w_9 (fun b => b < w_7.heap.size) lB AB) := Lib.hid (KEB_8.out.below hbz)
      have KEC_9 : Hid (Els w_9 (fun b => b < w_8.heap.size) lC AC) := Lib.hid (KEC_8.out.below hbz)
      have QB_9 : Hid (Below w.heap.size w w_9) := Lib.hid (bthen QB_8.out hbz QB_8.out.size)
      have sz_9 : w_8.heap.size ≤ w_9.heap.size := (hbz).size
      clear hbz
      clear KE_8 KG_8 KEA_8 KEB_8 KEC_8 QB_8
      rw [HC.out]
      have cG_9_0 : w_9.cell? ⟨w.heap.size, 0, none⟩ = some (.int .i64 (m : Int)) := KG_9.out.cell 0
      have cG_9_1 : w_9.cell? ⟨w.heap.size, 1, none⟩ = some (.int .i64 (n : Int)) := KG_9.out.cell 1
      have cG_9_2 : w_9.cell? ⟨w.heap.size, 2, none⟩ = some (.int .i64 gs) := KG_9.out.cell 2
      have cG_9_3 : w_9.cell? ⟨w.heap.size, 3, none⟩ = some (.slice A rs.length c) := KG_9.out.cell 3
      have zG_9 : w.heap.size < w_9.heap.size := KG_9.out.lt
      go_wp2_with fail
      refine (rloops_any ⟨(m : Int), (n : Int), gs, rs⟩ m n A c S _ L rfl rfl HC.out hlc hc KE_9.out (fun b hb => by have := HS.out b hb; omega) HL.out).mono ?_
      rintro e w_10 ⟨O, row, rfl, hrl, hO, hrow, hO0, hbz⟩
      have hrow2 := loops_eq HPI.out HLp.out hrl hrow
      subst hrow2
      have hEO := els_bcellz (S := fun b => b = O) hO rfl
      clear cG_9_0 cG_9_1 cG_9_2 cG_9_3 zG_9
      have KE_10 : Hid (Els w_10 S rs A) := Lib.hid (KE_9.out.below hbz)
      have KG_10 : Hid (Blk' w_10 (w.heap.size) 25 #[.int .i64 (m : Int), .int .i64 (n : Int), .int .i64 gs, .slice A rs.length c]) := Lib.hid (KG_9.out.below hbz KG_9.out.lt)
      have KEA_10 : Hid (Els w_10 (fun b => b < w_6.heap.size) lA (some ⟨ba, 0, none⟩)) := Lib.hid (KEA_9.out.below hbz)
      have KEB_10 : Hid (Els w_10 (fun b => b < w_7.heap.size) lB AB) := Lib.hid (KEB_9.out.below hbz)
      have KEC_10 : Hid (Els w_10 (fun b => b < w_8.heap.size) lC AC) := Lib.hid (KEC_9.out.below hbz)
      have QB_10 : Hid (Below w.heap.size w w_10) := Lib.hid (bthen QB_9.out hbz QB_9.out.size)
      have sz_10 : w_9.heap.size ≤ w_10.heap.size := (hbz).size
      clear hbz
      clear KE_9 KG_9 KEA_9 KEB_9 KEC_9 QB_9
      have KEO_10 : Hid (Els w_10 (fun b => b < w_10.heap.size) lB (some ⟨O, 0, none⟩)) := Lib.hid (hEO.keep (fun _ _ _ => rfl) (fun b (h : b = O) => by have := hO.lt; omega))
      clear hEO hO hrow hO0
      go_wp2_with fail
      refine (equalBool_any AB (some ⟨O, 0, none⟩) lB lB n n _ _ _ _ w_10 hrl.symm hrl.symm (by omega) (by omega) KEB_10.out KEO_10.out).mono ?_
      rintro e w_11 ⟨rfl, hbz⟩
      have KE_11 : Hid (Els w_11 S rs A) := Lib.hid (KE_10.out.below hbz)
      have KG_11 : Hid (Blk' w_11 (w.heap.size) 25 #[.int .i64 (m : Int), .int .i64 (n : Int), .int .i64 gs, .slice A rs.length c]) := Lib.hid (KG_10.out.below hbz KG_10.out.lt)
      have KEA_11 : Hid (Els w_11 (fun b => b < w_6.heap.size) lA (some ⟨ba, 0, none⟩)) := Lib.hid (KEA_10.out.below hbz)
      have KEB_11 : Hid (Els w_11 (fun b => b < w_7.heap.size) lB AB) := Lib.hid (KEB_10.out.below hbz)
      have KEC_11 : Hid (Els w_11 (fun b => b < w_8.heap.size) lC AC) := Lib.hid (KEC_10.out.below hbz)
      have KEO_11 : Hid (Els w_11 (fun b => b < w_10.heap.size) lB (some ⟨O, 0, none⟩)) := Lib.hid (KEO_10.out.below hbz)
      have QB_11 : Hid (Below w.heap.size w w_11) := Lib.hid (bthen QB_10.out hbz QB_10.out.size)
      have sz_11 : w_10.heap.size ≤ w_11.heap.size := (hbz).size
      clear hbz
      clear KE_10 KG_10 KEA_10 KEB_10 KEC_10 KEO_10 QB_10
      obtain ⟨tb, htb⟩ : ∃ tb, tb = decide (lB = lB) := ⟨_, rfl⟩
      rw [← htb]
      have htb2 : tb = true := by rw [htb]; simp
      subst htb2
      clear htb
      have cG_11_0 : w_11.cell? ⟨w.heap.size, 0, none⟩ = some (.int .i64 (m : Int)) := KG_11.out.cell 0
      have cG_11_1 : w_11.cell? ⟨w.heap.size, 1, none⟩ = some (.int .i64 (n : Int)) := KG_11.out.cell 1
      have cG_11_2 : w_11.cell? ⟨w.heap.size, 2, none⟩ = some (.int .i64 gs) := KG_11.out.cell 2
      have cG_11_3 : w_11.cell? ⟨w.heap.size, 3, none⟩ = some (.slice A rs.length c) := KG_11.out.cell 3
      have zG_11 : w.heap.size < w_11.heap.size := KG_11.out.lt
      go_wp2_with fail
      refine (rleft_any ⟨(m : Int), (n : Int), gs, rs⟩ m n A c S _ L rfl rfl HC.out hlc hc KE_11.out (fun b hb => by have := HS.out b hb; omega) HL.out).mono ?_
      rintro e w_12 ⟨vD, lD, rfl, hFD, hownD, hbz⟩
      obtain ⟨AD, cD, rfl, _, _, _⟩ := hownD.form
      have hDC := HFC.out.uniq n _ _ hFD
      subst hDC
      clear cG_11_0 cG_11_1 cG_11_2 cG_11_3 zG_11
      have KE_12 : Hid (Els w_12 S rs A) := Lib.hid (KE_11.out.below hbz)
      have KG_12 : Hid (Blk' w_12 (w.heap.size) 25 #[.int .i64 (m : Int), .int .i64 (n : Int), .int .i64 gs, .slice A rs.length c]) := Lib.hid (KG_11.out.below hbz KG_11.out.lt)
      have KEA_12 : Hid (Els w_12 (fun b => b < w_6.heap.size) lA (some ⟨ba, 0, none⟩)) := Lib.hid (KEA_11.out.below hbz)
      have KEC_12 : Hid (Els w_12 (fun b => b < w_8.heap.size) lC AC) := Lib.hid (KEC_11.out.below hbz)
      have QB_12 : Hid (Below w.heap.size w w_12) := Lib.hid (bthen QB_11.out hbz QB_11.out.size)
      have sz_12 : w_11.heap.size ≤ w_12.heap.size := (hbz).size
      clear hbz
      clear KE_11 KG_11 KEA_11 KEC_11 QB_11
      have KED_12 : Hid (Els w_12 (fun b => b < w_12.heap.size) lC AD) := Lib.hid (hownD.vl.els.2.2.2.keep (fun _ _ _ => rfl) (fun _ h => h.2))
      clear hownD hFD
      go_wp2_with fail
      refine (equalInt_any AC AD lC lC _ _ _ _ _ _ w_12 rfl rfl (by omega) (by omega) KEC_12.out KED_12.out).mono ?_
      rintro e w_13 ⟨rfl, hbz⟩
      have KE_13 : Hid (Els w_13 S rs A) := Lib.hid (KE_12.out.below hbz)
      have KG_13 : Hid (Blk' w_13 (w.heap.size) 25 #[.int .i64 (m : Int), .int .i64 (n : Int), .int .i64 gs, .slice A rs.length c]) := Lib.hid (KG_12.out.below hbz KG_12.out.lt)
      have KEA_13 : Hid (Els w_13 (fun b => b < w_6.heap.size) lA (some ⟨ba, 0, none⟩)) := Lib.hid (KEA_12.out.below hbz)
      have KEC_13 : Hid (Els w_13 (fun b => b < w_8.heap.size) lC AC) := Lib.hid (KEC_12.out.below hbz)
      have KED_13 : Hid (Els w_13 (fun b => b < w_12.heap.size) lC AD) := Lib.hid (KED_12.out.below hbz)
      have QB_13 : Hid (Below w.heap.size w w_13) := Lib.hid (bthen QB_12.out hbz QB_12.out.size)
      have sz_13 : w_12.heap.size ≤ w_13.heap.size := (hbz).size
      clear hbz
      clear KE_12 KG_12 KEA_12 KEC_12 KED_12 QB_12
      obtain ⟨tc, htc⟩ : ∃ tc, tc = decide (lC = lC) := ⟨_, rfl⟩
      rw [← htc]
      have htc2 : tc = true := by rw [htc]; simp
      subst htc2
      clear htc
      have cG_13_0 : w_13.cell? ⟨w.heap.size, 0, none⟩ = some (.int .i64 (m : Int)) := KG_13.out.cell 0
      have cG_13_1 : w_13.cell? ⟨w.heap.size, 1, none⟩ = some (.int .i64 (n : Int)) := KG_13.out.cell 1
      have cG_13_2 : w_13.cell? ⟨w.heap.size, 2, none⟩ = some (.int .i64 gs) := KG_13.out.cell 2
      have cG_13_3 : w_13.cell? ⟨w.heap.size, 3, none⟩ = some (.slice A rs.length c) := KG_13.out.cell 3
      have zG_13 : w.heap.size < w_13.heap.size := KG_13.out.lt
      go_wp2_with fail
      refine (rcycle_any ⟨(m : Int), (n : Int), gs, rs⟩ m n A c S _ L rfl rfl HC.out hlc hc KE_13.out (fun b hb => by have := HS.out b hb; omega) HL.out).mono ?_
      rintro e w_14 hrc
      have hbz : Below w_13.heap.size w_13 w_14 := by rcases hrc with ⟨_, _, h⟩ | ⟨_, _, _, _, _, _, _, _, h⟩ <;> exact h
      clear cG_13_0 cG_13_1 cG_13_2 cG_13_3 zG_13
      have KE_14 : Hid (Els w_14 S rs A) := Lib.hid (KE_13.out.below hbz)
      have KG_14 : Hid (Blk' w_14 (w.heap.size) 25 #[.int .i64 (m : Int), .int .i64 (n : Int), .int .i64 gs, .slice A rs.length c]) := Lib.hid (KG_13.out.below hbz KG_13.out.lt)
      have KEA_14 : Hid (Els w_14 (fun b => b < w_6.heap.size) lA (some ⟨ba, 0, none⟩)) := Lib.hid (KEA_13.out.below hbz)
      have QB_14 : Hid (Below w.heap.size w w_14) := Lib.hid (bthen QB_13.out hbz QB_13.out.size)
      have sz_14 : w_13.heap.size ≤ w_14.heap.size := (hbz).size
      clear hbz
      clear KE_13 KG_13 KEA_13 QB_13
      rcases hrc with ⟨rfl, hno2, _⟩ | ⟨kD, iD, qD, lE, vE, rfl, hcD, hownE, _⟩
      · exact absurd hno2 HcF.out.no
      · obtain ⟨AE, cE, rfl, _, _, _⟩ := hownE.form
        have hE := HcF.out.uniq hcD
        subst hE
        have KEE_14 : Hid (Els w_14 (fun b => b < w_14.heap.size) lA AE) := Lib.hid (hownE.vl.els.2.2.2.keep (fun _ _ _ => rfl) (fun _ h => h.2))
        clear hownE hcD
        go_wp2_with fail
        refine (equalInt_any (some ⟨ba, 0, none⟩) AE lA lA _ _ _ _ _ _ w_14 rfl rfl (by omega) (by omega) KEA_14.out KEE_14.out).mono ?_
        rintro e w_15 ⟨rfl, hbz⟩
        have KE_15 : Hid (Els w_15 S rs A) := Lib.hid (KE_14.out.below hbz)
        have KG_15 : Hid (Blk' w_15 (w.heap.size) 25 #[.int .i64 (m : Int), .int .i64 (n : Int), .int .i64 gs, .slice A rs.length c]) := Lib.hid (KG_14.out.below hbz KG_14.out.lt)
        have KEA_15 : Hid (Els w_15 (fun b => b < w_6.heap.size) lA (some ⟨ba, 0, none⟩)) := Lib.hid (KEA_14.out.below hbz)
        have KEE_15 : Hid (Els w_15 (fun b => b < w_14.heap.size) lA AE) := Lib.hid (KEE_14.out.below hbz)
        have QB_15 : Hid (Below w.heap.size w w_15) := Lib.hid (bthen QB_14.out hbz QB_14.out.size)
        have sz_15 : w_14.heap.size ≤ w_15.heap.size := (hbz).size
        clear hbz
        clear KE_14 KG_14 KEA_14 KEE_14 QB_14
        go_wp2
        go_ret
        exact ⟨ret_bool (by simp), QB_15.out⟩
  · skip
    obtain ⟨E, hE⟩ : ∃ E, E = checkI ⟨gt, gn, gs, rs⟩ := ⟨_, rfl⟩
    have HE := Lib.hid hE
    have HK := Lib.hid hck
    have hE0 : ¬ E = 0 := by rw [hE]; exact hck
    clear hE hck
    have cG_5_0 : w_5.cell? ⟨w.heap.size, 0, none⟩ = some (.int .i64 gt) := KG_5.out.cell 0
    have cG_5_1 : w_5.cell? ⟨w.heap.size, 1, none⟩ = some (.int .i64 gn) := KG_5.out.cell 1
    have cG_5_2 : w_5.cell? ⟨w.heap.size, 2, none⟩ = some (.int .i64 gs) := KG_5.out.cell 2
    have cG_5_3 : w_5.cell? ⟨w.heap.size, 3, none⟩ = some (.slice A rs.length c) := KG_5.out.cell 3
    have zG_5 : w.heap.size < w_5.heap.size := KG_5.out.lt
    go_wp2_with fail
    refine (cyclic_bad ⟨gt, gn, gs, rs⟩ A c S _ HK.out hlc hc KE_5.out).mono ?_
    rintro e w_6 ⟨rfl, hbz⟩
    clear cG_5_0 cG_5_1 cG_5_2 cG_5_3 zG_5
    have KE_6 : Hid (Els w_6 S rs A) := Lib.hid (KE_5.out.below hbz)
    have KG_6 : Hid (Blk' w_6 (w.heap.size) 25 #[.int .i64 gt, .int .i64 gn, .int .i64 gs, .slice A rs.length c]) := Lib.hid (KG_5.out.below hbz KG_5.out.lt)
    have QB_6 : Hid (Below w.heap.size w w_6) := Lib.hid (bthen QB_5.out hbz QB_5.out.size)
    have sz_6 : w_5.heap.size ≤ w_6.heap.size := (hbz).size
    clear hbz
    clear KE_5 KG_5 QB_5
    rw [← HE.out]
    have cG_6_0 : w_6.cell? ⟨w.heap.size, 0, none⟩ = some (.int .i64 gt) := KG_6.out.cell 0
    have cG_6_1 : w_6.cell? ⟨w.heap.size, 1, none⟩ = some (.int .i64 gn) := KG_6.out.cell 1
    have cG_6_2 : w_6.cell? ⟨w.heap.size, 2, none⟩ = some (.int .i64 gs) := KG_6.out.cell 2
    have cG_6_3 : w_6.cell? ⟨w.heap.size, 3, none⟩ = some (.slice A rs.length c) := KG_6.out.cell 3
    have zG_6 : w.heap.size < w_6.heap.size := KG_6.out.lt
    go_wp2_with fail
    refine (loops_bad ⟨gt, gn, gs, rs⟩ A c S _ HK.out hlc hc KE_6.out).mono ?_
    rintro e w_7 ⟨rfl, hbz⟩
    clear cG_6_0 cG_6_1 cG_6_2 cG_6_3 zG_6
    have KE_7 : Hid (Els w_7 S rs A) := Lib.hid (KE_6.out.below hbz)
    have KG_7 : Hid (Blk' w_7 (w.heap.size) 25 #[.int .i64 gt, .int .i64 gn, .int .i64 gs, .slice A rs.length c]) := Lib.hid (KG_6.out.below hbz KG_6.out.lt)
    have QB_7 : Hid (Below w.heap.size w w_7) := Lib.hid (bthen QB_6.out hbz QB_6.out.size)
    have sz_7 : w_6.heap.size ≤ w_7.heap.size := (hbz).size
    clear hbz
    clear KE_6 KG_6 QB_6
    rw [← HE.out]
    have cG_7_0 : w_7.cell? ⟨w.heap.size, 0, none⟩ = some (.int .i64 gt) := KG_7.out.cell 0
    have cG_7_1 : w_7.cell? ⟨w.heap.size, 1, none⟩ = some (.int .i64 gn) := KG_7.out.cell 1
    have cG_7_2 : w_7.cell? ⟨w.heap.size, 2, none⟩ = some (.int .i64 gs) := KG_7.out.cell 2
    have cG_7_3 : w_7.cell? ⟨w.heap.size, 3, none⟩ = some (.slice A rs.length c) := KG_7.out.cell 3
    have zG_7 : w.heap.size < w_7.heap.size := KG_7.out.lt
    go_wp2_with fail
    refine (left_bad ⟨gt, gn, gs, rs⟩ A c S _ HK.out hlc hc KE_7.out).mono ?_
    rintro e w_8 ⟨rfl, hbz⟩
    clear cG_7_0 cG_7_1 cG_7_2 cG_7_3 zG_7
    have KE_8 : Hid (Els w_8 S rs A) := Lib.hid (KE_7.out.below hbz)
    have KG_8 : Hid (Blk' w_8 (w.heap.size) 25 #[.int .i64 gt, .int .i64 gn, .int .i64 gs, .slice A rs.length c]) := Lib.hid (KG_7.out.below hbz KG_7.out.lt)
    have QB_8 : Hid (Below w.heap.size w w_8) := Lib.hid (bthen QB_7.out hbz QB_7.out.size)
    have sz_8 : w_7.heap.size ≤ w_8.heap.size := (hbz).size
    clear hbz
    clear KE_7 KG_7 QB_7
    rw [← HE.out]
    have cG_8_0 : w_8.cell? ⟨w.heap.size, 0, none⟩ = some (.int .i64 gt) := KG_8.out.cell 0
    have cG_8_1 : w_8.cell? ⟨w.heap.size, 1, none⟩ = some (.int .i64 gn) := KG_8.out.cell 1
    have cG_8_2 : w_8.cell? ⟨w.heap.size, 2, none⟩ = some (.int .i64 gs) := KG_8.out.cell 2
    have cG_8_3 : w_8.cell? ⟨w.heap.size, 3, none⟩ = some (.slice A rs.length c) := KG_8.out.cell 3
    have zG_8 : w.heap.size < w_8.heap.size := KG_8.out.lt
    go_wp2_with fail
    refine (gramErr_any ⟨gt, gn, gs, rs⟩ A c S _ HI.out hlc hc KE_8.out (fun b hb => by have := HS.out b hb; omega)).mono ?_
    rintro e w_9 ⟨rfl, hbz⟩
    clear cG_8_0 cG_8_1 cG_8_2 cG_8_3 zG_8
    have KE_9 : Hid (Els w_9 S rs A) := Lib.hid (KE_8.out.below hbz)
    have KG_9 : Hid (Blk' w_9 (w.heap.size) 25 #[.int .i64 gt, .int .i64 gn, .int .i64 gs, .slice A rs.length c]) := Lib.hid (KG_8.out.below hbz KG_8.out.lt)
    have QB_9 : Hid (Below w.heap.size w w_9) := Lib.hid (bthen QB_8.out hbz QB_8.out.size)
    have sz_9 : w_8.heap.size ≤ w_9.heap.size := (hbz).size
    clear hbz
    clear KE_8 KG_8 QB_8
    rw [← HE.out]
    go_wp2
    go_ret
    exact ⟨rfl, QB_9.out⟩

theorem cycleSays_row (g : Gram) (v : Value) (W : World) (h0 : Vl W (OldS W) g v) :
    Calls Tryd.prog 6 #[v] W fun e W' => e = .returned (.bool true) ∧ Below W.heap.size W W' := by
  obtain ⟨s, rfl, k1, k2, k3, hs⟩ := h0.gram
  obtain ⟨A, c, rfl, hlc, hc, hA⟩ := hs.slice
  exact cycleSays_any g A c (OldS W) W ⟨k1, k2, k3⟩ hlc hc hA (fun b h => h)
end Go.Proofs.YtabehgggahnopaaDoor
