/- The law LeftrecSays: the walk. -/
import Derived.Test.YtagcnhiinmiklaaDoorQLeftPub
import Derived.Test.YtagcnhiinmiklaaDoorQLeftBad
import Derived.Test.YtagcnhiinmiklaaDoorQStraight
import Derived.Test.YtagcnhiinmiklaaDoorQSame
import Derived.Test.YtagcnhiinmiklaaDoorQChain2
import Derived.Test.YtagcnhiinmiklaaDoorQGramErr
import Derived.Test.YtagcnhiinmiklaaDoorQw1
import Derived.Test.YtagcnhiinmiklaaDoorQp1
namespace Go.Proofs.YtagcnhiinmiklaaDoor
open Go.RowKit
set_option linter.unusedVariables false

theorem StrBad.uniq {g : Gram} {n : Nat} {k k' : Int} (h : StrBad g n k) (h' : StrBad g n k') : k = k' := by
  cases h <;> cases h' <;> first | rfl | contradiction | (exfalso; omega) | (rename_i a1 _ a2 a3; exact absurd a1 (a3 _)) 

theorem chain_strR : (strG chainG 1).rules.length = 3 := by decide +kernel
theorem chain_from : fromL chainG 1 = [0, 1, -1] := by decide +kernel
theorem elsZ {w : World} : Els w (fun _ => False) ([] : List Rule) none := fun h => absurd rfl h
theorem zero_gram : decide ((⟨0, 0, 0, []⟩ : Gram) = ⟨0, 0, 0, []⟩) = true := by simp

set_option maxRecDepth 100000 in
set_option maxHeartbeats 16000000 in
theorem leftrecSays_any (g : Gram) (A : Option Addr) (c : Nat) (S : Nat → Prop) (w : World) (h64 : I64 g.terms ∧ I64 g.nons ∧ I64 g.start) (hlc : g.rules.length ≤ c) (hc : c ≤ 9223372036854775807) (hA : Els w S g.rules A) (hS : ∀ b, S b → b < w.heap.size) :
    Calls Tryd.prog 3 #[.agg #[.int .i64 g.terms, .int .i64 g.nons, .int .i64 g.start, .slice A g.rules.length c]] w fun e w' => e = .returned (.bool true) ∧ Below w.heap.size w w' := by
  have HI := Lib.hid h64
  have HS := Lib.hid hS
  have HCC := Lib.hid chainC
  have HOkC : Hid (StrOk chainG 1) := Lib.hid chK_ok
  obtain ⟨gt, gn, gs, rs⟩ := g
  dsimp only at *
  clear h64
  have KE_0 : Hid (Els w S rs A) := Lib.hid (hA)
  clear hA hS
  obtain ⟨w_1, hww_1⟩ : ∃ w_1 : World, w_1 = w.alloc (.cells #[.int .i64 gt, .int .i64 gn, .int .i64 gs, .slice A rs.length c] 24) := ⟨_, rfl⟩
  have hbw_1 : Below w.heap.size w w_1 := by rw [hww_1]; exact (Below.refl _ _).alloc (by first | exact Nat.le_refl _ | (simp; done) | (simp; omega)) _
  have sqw_1 : w_1.heap.size = w.heap.size + 1 := by rw [hww_1]; simp
  have KE_1 : Hid (Els w_1 S rs A) := Lib.hid (KE_0.out.below hbw_1)
  have QB_1 : Hid (Below w.heap.size w w_1) := Lib.hid (hbw_1)
  have sz_1 : w.heap.size + 1 ≤ w_1.heap.size := by rw [sqw_1]; exact Nat.le_refl _
  have KG_1 : Hid (Blk' w_1 (w.heap.size) 24 #[.int .i64 gt, .int .i64 gn, .int .i64 gs, .slice A rs.length c]) := Lib.hid (by rw [hww_1]; exact Blk'.new w _ _)
  have HWw_1 := Lib.hid hww_1
  have SQw_1 := Lib.hid sqw_1
  clear hww_1 hbw_1 sqw_1
  clear KE_0
  go_enter Tryd.func3, Tryd.ntmps3
  go_upto_region 1 with (fail)
  rw [← HWw_1.out]
  go_wp2_with fail
  refine (chain_any _).mono ?_
  rintro e w_2 ⟨As, rfl, hEs, hbz⟩
  have HEs := Lib.hid hEs
  clear hEs
  have KE_2 : Hid (Els w_2 S rs A) := Lib.hid (KE_1.out.below hbz)
  have KG_2 : Hid (Blk' w_2 (w.heap.size) 24 #[.int .i64 gt, .int .i64 gn, .int .i64 gs, .slice A rs.length c]) := Lib.hid (KG_1.out.below hbz KG_1.out.lt)
  have QB_2 : Hid (Below w.heap.size w w_2) := Lib.hid (bthen QB_1.out hbz QB_1.out.size)
  have sz_2 : w_1.heap.size ≤ w_2.heap.size := (hbz).size
  clear hbz
  clear KE_1 KG_1 QB_1
  go_wp2_with fail
  refine (leftPub_any chainG 2 1 As 2 _ _ rfl rfl HCC.out (by decide) (by omega) HEs.out (fun b hb => hb.2)).mono ?_
  rintro e w_3 hpc
  have hbz : Below w_2.heap.size w_2 w_3 := by rcases hpc with ⟨_, _, _, h⟩ | ⟨_, _, _, _, _, _, _, _, _, _, _, _, h⟩ <;> exact h
  have KE_3 : Hid (Els w_3 S rs A) := Lib.hid (KE_2.out.below hbz)
  have KG_3 : Hid (Blk' w_3 (w.heap.size) 24 #[.int .i64 gt, .int .i64 gn, .int .i64 gs, .slice A rs.length c]) := Lib.hid (KG_2.out.below hbz KG_2.out.lt)
  have QB_3 : Hid (Below w.heap.size w w_3) := Lib.hid (bthen QB_2.out hbz QB_2.out.size)
  have sz_3 : w_2.heap.size ≤ w_3.heap.size := (hbz).size
  clear hbz
  clear KE_2 KG_2 QB_2
  rcases hpc with ⟨k, hbad, _⟩ | ⟨_, A1, A2, c1, c2, rfl, q11, q12, hE1, q21, q22, hE2, _⟩
  · exact absurd hbad HOkC.out.not
  rw [chain_strR, chain_from]
  rw [chain_from] at hE2 q21
  have KEF_3 : Hid (Els w_3 (fun b => b < w_3.heap.size) [(0 : Int), 1, -1] A2) := Lib.hid (hE2.keep (fun _ _ _ => rfl) (fun _ h => h.2))
  clear hE1 hE2 q11 q12
  obtain ⟨w_4, hww_4⟩ : ∃ w_4 : World, w_4 = w_3.alloc (.cells #[.int .i64 (strG chainG 1).terms, .int .i64 (strG chainG 1).nons, .int .i64 (strG chainG 1).start, .slice A1 3 c1, .slice A2 3 c2] 27) := ⟨_, rfl⟩
  have hbw_4 : Below w_3.heap.size w_3 w_4 := by rw [hww_4]; exact (Below.refl _ _).alloc (by first | exact Nat.le_refl _ | (simp; done) | (simp; omega)) _
  have sqw_4 : w_4.heap.size = w_3.heap.size + 1 := by rw [hww_4]; simp
  have KE_4 : Hid (Els w_4 S rs A) := Lib.hid (KE_3.out.below hbw_4)
  have KG_4 : Hid (Blk' w_4 (w.heap.size) 24 #[.int .i64 gt, .int .i64 gn, .int .i64 gs, .slice A rs.length c]) := Lib.hid (KG_3.out.below hbw_4 KG_3.out.lt)
  have KEF_4 : Hid (Els w_4 (fun b => b < w_3.heap.size) [(0 : Int), 1, -1] A2) := Lib.hid (KEF_3.out.below hbw_4)
  have QB_4 : Hid (Below w.heap.size w w_4) := Lib.hid (bthen QB_3.out hbw_4 QB_3.out.size)
  have sz_4 : w_3.heap.size + 1 ≤ w_4.heap.size := by rw [sqw_4]; exact Nat.le_refl _
  have KQ_4 : Hid (Blk' w_4 (w_3.heap.size) 27 #[.int .i64 (strG chainG 1).terms, .int .i64 (strG chainG 1).nons, .int .i64 (strG chainG 1).start, .slice A1 3 c1, .slice A2 3 c2]) := Lib.hid (by rw [hww_4]; exact Blk'.new w_3 _ _)
  have HWw_4 := Lib.hid hww_4
  have SQw_4 := Lib.hid sqw_4
  clear hww_4 hbw_4 sqw_4
  clear KE_3 KG_3 KEF_3 QB_3
  go_upto_region 2 with (fail)
  rw [← HWw_4.out]
  have cQ_4_0 : w_4.cell? ⟨w_3.heap.size, 0, none⟩ = some (.int .i64 (strG chainG 1).terms) := KQ_4.out.cell 0
  have cQ_4_1 : w_4.cell? ⟨w_3.heap.size, 1, none⟩ = some (.int .i64 (strG chainG 1).nons) := KQ_4.out.cell 1
  have cQ_4_2 : w_4.cell? ⟨w_3.heap.size, 2, none⟩ = some (.int .i64 (strG chainG 1).start) := KQ_4.out.cell 2
  have cQ_4_3 : w_4.cell? ⟨w_3.heap.size, 3, none⟩ = some (.slice A1 3 c1) := KQ_4.out.cell 3
  have cQ_4_4 : w_4.cell? ⟨w_3.heap.size, 4, none⟩ = some (.slice A2 3 c2) := KQ_4.out.cell 4
  have zQ_4 : w_3.heap.size < w_4.heap.size := KQ_4.out.lt
  obtain ⟨w_5, hww_5⟩ : ∃ w_5 : World, w_5 = w_4.alloc (.cells #[.int .i64 0, .int .i64 1, .int .i64 (-1)] 3) := ⟨_, rfl⟩
  have hbw_5 : Below w_4.heap.size w_4 w_5 := by rw [hww_5]; exact (Below.refl _ _).alloc (by first | exact Nat.le_refl _ | (simp; done) | (simp; omega)) _
  have sqw_5 : w_5.heap.size = w_4.heap.size + 1 := by rw [hww_5]; simp
  have KE_5 : Hid (Els w_5 S rs A) := Lib.hid (KE_4.out.below hbw_5)
  have KG_5 : Hid (Blk' w_5 (w.heap.size) 24 #[.int .i64 gt, .int .i64 gn, .int .i64 gs, .slice A rs.length c]) := Lib.hid (KG_4.out.below hbw_5 KG_4.out.lt)
  have KEF_5 : Hid (Els w_5 (fun b => b < w_3.heap.size) [(0 : Int), 1, -1] A2) := Lib.hid (KEF_4.out.below hbw_5)
  have KQ_5 : Hid (Blk' w_5 (w_3.heap.size) 27 #[.int .i64 (strG chainG 1).terms, .int .i64 (strG chainG 1).nons, .int .i64 (strG chainG 1).start, .slice A1 3 c1, .slice A2 3 c2]) := Lib.hid (KQ_4.out.below hbw_5 KQ_4.out.lt)
  have QB_5 : Hid (Below w.heap.size w w_5) := Lib.hid (bthen QB_4.out hbw_5 QB_4.out.size)
  have sz_5 : w_4.heap.size + 1 ≤ w_5.heap.size := by rw [sqw_5]; exact Nat.le_refl _
  have KZ_5 : Hid (Blk' w_5 (w_4.heap.size) 3 #[.int .i64 0, .int .i64 1, .int .i64 (-1)]) := Lib.hid (by rw [hww_5]; exact Blk'.new w_4 _ _)
  have HWw_5 := Lib.hid hww_5
  have SQw_5 := Lib.hid sqw_5
  clear hww_5 hbw_5 sqw_5
  clear KE_4 KG_4 KEF_4 KQ_4 QB_4
  go_wp2_with fail
  rw [← HWw_5.out]
  clear cQ_4_0 cQ_4_1 cQ_4_2 cQ_4_3 cQ_4_4 zQ_4
  have HZ : Hid (Els w_5 (fun b => b = w_4.heap.size) [(0 : Int), 1, -1] (some ⟨w_4.heap.size, 0, none⟩)) := Lib.hid (els_icells KZ_5.out (by intro v hv; simp at hv; rcases hv with rfl | rfl | rfl <;> (show I64 _; unfold I64; omega)) rfl)
  refine (equalInt_any A2 (some ⟨w_4.heap.size, 0, none⟩) [0, 1, -1] [0, 1, -1] 3 3 _ _ _ _ w_5 rfl rfl (by simp) (by simp) KEF_5.out HZ.out).mono ?_
  rintro e w_6 ⟨rfl, hbz⟩
  have KE_6 : Hid (Els w_6 S rs A) := Lib.hid (KE_5.out.below hbz)
  have KG_6 : Hid (Blk' w_6 (w.heap.size) 24 #[.int .i64 gt, .int .i64 gn, .int .i64 gs, .slice A rs.length c]) := Lib.hid (KG_5.out.below hbz KG_5.out.lt)
  have KEF_6 : Hid (Els w_6 (fun b => b < w_3.heap.size) [(0 : Int), 1, -1] A2) := Lib.hid (KEF_5.out.below hbz)
  have KQ_6 : Hid (Blk' w_6 (w_3.heap.size) 27 #[.int .i64 (strG chainG 1).terms, .int .i64 (strG chainG 1).nons, .int .i64 (strG chainG 1).start, .slice A1 3 c1, .slice A2 3 c2]) := Lib.hid (KQ_5.out.below hbz KQ_5.out.lt)
  have KZ_6 : Hid (Blk' w_6 (w_4.heap.size) 3 #[.int .i64 0, .int .i64 1, .int .i64 (-1)]) := Lib.hid (KZ_5.out.below hbz KZ_5.out.lt)
  have QB_6 : Hid (Below w.heap.size w w_6) := Lib.hid (bthen QB_5.out hbz QB_5.out.size)
  have sz_6 : w_5.heap.size ≤ w_6.heap.size := (hbz).size
  clear hbz
  clear KE_5 KG_5 KEF_5 KQ_5 KZ_5 QB_5
  obtain ⟨tb, htb⟩ : ∃ tb, tb = decide ([(0 : Int), 1, -1] = [(0 : Int), 1, -1]) := ⟨_, rfl⟩
  rw [← htb]
  have htb2 : tb = true := by rw [htb]; rfl
  subst htb2
  clear htb
  by_cases hck : checkI ⟨gt, gn, gs, rs⟩ = 0
  · skip
    have hv := validG_of hck
    have hb1 := hv.t1
    have hb3 := hv.n1
    dsimp only at hb1 hb3
    obtain ⟨m, rfl⟩ : ∃ m : Nat, gt = (m : Int) := ⟨gt.toNat, by omega⟩
    obtain ⟨n, rfl⟩ : ∃ n : Nat, gn = (n : Int) := ⟨gn.toNat, by omega⟩
    have HC := Lib.hid hck
    have HM : Hid (1 ≤ m) := Lib.hid (by omega)
    clear hv hck hb1 hb3
    have cG_6_0 : w_6.cell? ⟨w.heap.size, 0, none⟩ = some (.int .i64 (m : Int)) := KG_6.out.cell 0
    have cG_6_1 : w_6.cell? ⟨w.heap.size, 1, none⟩ = some (.int .i64 (n : Int)) := KG_6.out.cell 1
    have cG_6_2 : w_6.cell? ⟨w.heap.size, 2, none⟩ = some (.int .i64 gs) := KG_6.out.cell 2
    have cG_6_3 : w_6.cell? ⟨w.heap.size, 3, none⟩ = some (.slice A rs.length c) := KG_6.out.cell 3
    have zG_6 : w.heap.size < w_6.heap.size := KG_6.out.lt
    go_wp2_with fail
    refine (leftPub_any ⟨(m : Int), (n : Int), gs, rs⟩ m n A c S _ rfl rfl HC.out hlc hc KE_6.out (fun b hb => by have := HS.out b hb; omega)).mono ?_
    rintro e w_7 hpb
    have hbz : Below w_6.heap.size w_6 w_7 := by rcases hpb with ⟨_, _, _, h⟩ | ⟨_, _, _, _, _, _, _, _, _, _, _, _, h⟩ <;> exact h
    clear cG_6_0 cG_6_1 cG_6_2 cG_6_3 zG_6
    have KE_7 : Hid (Els w_7 S rs A) := Lib.hid (KE_6.out.below hbz)
    have KG_7 : Hid (Blk' w_7 (w.heap.size) 24 #[.int .i64 (m : Int), .int .i64 (n : Int), .int .i64 gs, .slice A rs.length c]) := Lib.hid (KG_6.out.below hbz KG_6.out.lt)
    have QB_7 : Hid (Below w.heap.size w w_7) := Lib.hid (bthen QB_6.out hbz QB_6.out.size)
    have sz_7 : w_6.heap.size ≤ w_7.heap.size := (hbz).size
    clear hbz
    clear KE_6 KG_6 QB_6
    rcases hpb with ⟨k, hbad, rfl, _⟩ | ⟨hok, B1, B2, d1, d2, rfl, q11, q12, hE1, q21, q22, hE2, _⟩
    · skip
      have HBd := Lib.hid hbad
      have hk0 : (k != 0) = true := by simp [hbad.ne]
      clear hbad
      obtain ⟨w_8, hww_8⟩ : ∃ w_8 : World, w_8 = w_7.alloc (.cells #[.int .i64 0, .int .i64 0, .int .i64 0, .slice none 0 0, .slice none 0 0] 27) := ⟨_, rfl⟩
      have hbw_8 : Below w_7.heap.size w_7 w_8 := by rw [hww_8]; exact (Below.refl _ _).alloc (by first | exact Nat.le_refl _ | (simp; done) | (simp; omega)) _
      have sqw_8 : w_8.heap.size = w_7.heap.size + 1 := by rw [hww_8]; simp
      have KE_8 : Hid (Els w_8 S rs A) := Lib.hid (KE_7.out.below hbw_8)
      have KG_8 : Hid (Blk' w_8 (w.heap.size) 24 #[.int .i64 (m : Int), .int .i64 (n : Int), .int .i64 gs, .slice A rs.length c]) := Lib.hid (KG_7.out.below hbw_8 KG_7.out.lt)
      have QB_8 : Hid (Below w.heap.size w w_8) := Lib.hid (bthen QB_7.out hbw_8 QB_7.out.size)
      have sz_8 : w_7.heap.size + 1 ≤ w_8.heap.size := by rw [sqw_8]; exact Nat.le_refl _
      have KQ_8 : Hid (Blk' w_8 (w_7.heap.size) 27 #[.int .i64 0, .int .i64 0, .int .i64 0, .slice none 0 0, .slice none 0 0]) := Lib.hid (by rw [hww_8]; exact Blk'.new w_7 _ _)
      have HWw_8 := Lib.hid hww_8
      have SQw_8 := Lib.hid sqw_8
      clear hww_8 hbw_8 sqw_8
      clear KE_7 KG_7 QB_7
      go_upto_region 5 with (fail)
      rw [← HWw_8.out]
      have cQ_8_0 : w_8.cell? ⟨w_7.heap.size, 0, none⟩ = some (.int .i64 0) := KQ_8.out.cell 0
      have cQ_8_1 : w_8.cell? ⟨w_7.heap.size, 1, none⟩ = some (.int .i64 0) := KQ_8.out.cell 1
      have cQ_8_2 : w_8.cell? ⟨w_7.heap.size, 2, none⟩ = some (.int .i64 0) := KQ_8.out.cell 2
      have cQ_8_3 : w_8.cell? ⟨w_7.heap.size, 3, none⟩ = some (.slice none 0 0) := KQ_8.out.cell 3
      have cQ_8_4 : w_8.cell? ⟨w_7.heap.size, 4, none⟩ = some (.slice none 0 0) := KQ_8.out.cell 4
      have zQ_8 : w_7.heap.size < w_8.heap.size := KQ_8.out.lt
      go_wp2_with fail
      refine (sameGram_any ⟨0, 0, 0, []⟩ ⟨0, 0, 0, []⟩ none none 0 0 (fun _ => False) (fun _ => False) w_8 ⟨by simp, by omega⟩ ⟨by simp, by omega⟩ elsZ elsZ).mono ?_
      rintro e w_9 ⟨rfl, hbz⟩
      clear cQ_8_0 cQ_8_1 cQ_8_2 cQ_8_3 cQ_8_4 zQ_8
      have KE_9 : Hid (Els w_9 S rs A) := Lib.hid (KE_8.out.below hbz)
      have KG_9 : Hid (Blk' w_9 (w.heap.size) 24 #[.int .i64 (m : Int), .int .i64 (n : Int), .int .i64 gs, .slice A rs.length c]) := Lib.hid (KG_8.out.below hbz KG_8.out.lt)
      have KQ_9 : Hid (Blk' w_9 (w_7.heap.size) 27 #[.int .i64 0, .int .i64 0, .int .i64 0, .slice none 0 0, .slice none 0 0]) := Lib.hid (KQ_8.out.below hbz KQ_8.out.lt)
      have QB_9 : Hid (Below w.heap.size w w_9) := Lib.hid (bthen QB_8.out hbz QB_8.out.size)
      have sz_9 : w_8.heap.size ≤ w_9.heap.size := (hbz).size
      clear hbz
      clear KE_8 KG_8 KQ_8 QB_8
      rw [zero_gram]
      have cQ_9_0 : w_9.cell? ⟨w_7.heap.size, 0, none⟩ = some (.int .i64 0) := KQ_9.out.cell 0
      have cQ_9_1 : w_9.cell? ⟨w_7.heap.size, 1, none⟩ = some (.int .i64 0) := KQ_9.out.cell 1
      have cQ_9_2 : w_9.cell? ⟨w_7.heap.size, 2, none⟩ = some (.int .i64 0) := KQ_9.out.cell 2
      have cQ_9_3 : w_9.cell? ⟨w_7.heap.size, 3, none⟩ = some (.slice none 0 0) := KQ_9.out.cell 3
      have cQ_9_4 : w_9.cell? ⟨w_7.heap.size, 4, none⟩ = some (.slice none 0 0) := KQ_9.out.cell 4
      have zQ_9 : w_7.heap.size < w_9.heap.size := KQ_9.out.lt
      have cG_9_0 : w_9.cell? ⟨w.heap.size, 0, none⟩ = some (.int .i64 (m : Int)) := KG_9.out.cell 0
      have cG_9_1 : w_9.cell? ⟨w.heap.size, 1, none⟩ = some (.int .i64 (n : Int)) := KG_9.out.cell 1
      have cG_9_2 : w_9.cell? ⟨w.heap.size, 2, none⟩ = some (.int .i64 gs) := KG_9.out.cell 2
      have cG_9_3 : w_9.cell? ⟨w.heap.size, 3, none⟩ = some (.slice A rs.length c) := KG_9.out.cell 3
      have zG_9 : w.heap.size < w_9.heap.size := KG_9.out.lt
      go_wp2_with fail
      refine (gramErr_any ⟨(m : Int), (n : Int), gs, rs⟩ A c S _ HI.out hlc hc KE_9.out (fun b hb => by have := HS.out b hb; omega)).mono ?_
      rintro e w_10 ⟨rfl, hbz⟩
      clear cQ_9_0 cQ_9_1 cQ_9_2 cQ_9_3 cQ_9_4 zQ_9 cG_9_0 cG_9_1 cG_9_2 cG_9_3 zG_9
      have KE_10 : Hid (Els w_10 S rs A) := Lib.hid (KE_9.out.below hbz)
      have KG_10 : Hid (Blk' w_10 (w.heap.size) 24 #[.int .i64 (m : Int), .int .i64 (n : Int), .int .i64 gs, .slice A rs.length c]) := Lib.hid (KG_9.out.below hbz KG_9.out.lt)
      have KQ_10 : Hid (Blk' w_10 (w_7.heap.size) 27 #[.int .i64 0, .int .i64 0, .int .i64 0, .slice none 0 0, .slice none 0 0]) := Lib.hid (KQ_9.out.below hbz KQ_9.out.lt)
      have QB_10 : Hid (Below w.heap.size w w_10) := Lib.hid (bthen QB_9.out hbz QB_9.out.size)
      have sz_10 : w_9.heap.size ≤ w_10.heap.size := (hbz).size
      clear hbz
      clear KE_9 KG_9 KQ_9 QB_9
      rw [HC.out]
      have cG_10_0 : w_10.cell? ⟨w.heap.size, 0, none⟩ = some (.int .i64 (m : Int)) := KG_10.out.cell 0
      have cG_10_1 : w_10.cell? ⟨w.heap.size, 1, none⟩ = some (.int .i64 (n : Int)) := KG_10.out.cell 1
      have cG_10_2 : w_10.cell? ⟨w.heap.size, 2, none⟩ = some (.int .i64 gs) := KG_10.out.cell 2
      have cG_10_3 : w_10.cell? ⟨w.heap.size, 3, none⟩ = some (.slice A rs.length c) := KG_10.out.cell 3
      have zG_10 : w.heap.size < w_10.heap.size := KG_10.out.lt
      go_wp2_with fail
      refine (straight_any ⟨(m : Int), (n : Int), gs, rs⟩ m n A c S _ rfl rfl HC.out hlc hc KE_10.out (fun b hb => by have := HS.out b hb; omega)).mono ?_
      rintro e w_11 hst
      have hbz : Below w_10.heap.size w_10 w_11 := by rcases hst with ⟨_, _, _, h⟩ | ⟨_, _, _, _, _, _, _, _, _, _, _, _, h⟩ <;> exact h
      clear cG_10_0 cG_10_1 cG_10_2 cG_10_3 zG_10
      have KE_11 : Hid (Els w_11 S rs A) := Lib.hid (KE_10.out.below hbz)
      have KG_11 : Hid (Blk' w_11 (w.heap.size) 24 #[.int .i64 (m : Int), .int .i64 (n : Int), .int .i64 gs, .slice A rs.length c]) := Lib.hid (KG_10.out.below hbz KG_10.out.lt)
      have KQ_11 : Hid (Blk' w_11 (w_7.heap.size) 27 #[.int .i64 0, .int .i64 0, .int .i64 0, .slice none 0 0, .slice none 0 0]) := Lib.hid (KQ_10.out.below hbz KQ_10.out.lt)
      have QB_11 : Hid (Below w.heap.size w w_11) := Lib.hid (bthen QB_10.out hbz QB_10.out.size)
      have sz_11 : w_10.heap.size ≤ w_11.heap.size := (hbz).size
      clear hbz
      clear KE_10 KG_10 KQ_10 QB_10
      rcases hst with ⟨k', hbad', rfl, _⟩ | ⟨hok', _⟩
      rotate_left
      · exact absurd HBd.out hok'.not
      have hkk := HBd.out.uniq hbad'
      subst hkk
      clear hbad'
      go_wp2
      go_ret
      exact ⟨ret_bool (by simp), QB_11.out.alloc QB_11.out.size _⟩
    · skip
      have HOk := Lib.hid hok
      obtain ⟨sg, hsg⟩ : ∃ sg : Gram, sg = strG ⟨(m : Int), (n : Int), gs, rs⟩ n := ⟨_, rfl⟩
      obtain ⟨fs, hfs⟩ : ∃ fs : List Int, fs = fromL ⟨(m : Int), (n : Int), gs, rs⟩ n := ⟨_, rfl⟩
      rw [← hsg] at q11 hE1
      rw [← hfs] at q21 hE2
      rw [← hsg, ← hfs]
      have hst0 : sg.terms = (m : Int) := by rw [hsg]; rfl
      have HSG := Lib.hid hsg
      have HFS := Lib.hid hfs
      clear hsg hfs hok
      obtain ⟨st, sn, ss, xs⟩ := sg
      dsimp only at q11 hE1 hst0 ⊢
      have hz0 : decide ((⟨st, sn, ss, xs⟩ : Gram) = ⟨0, 0, 0, []⟩) = false := by have := HM.out; simp; intro h; omega
      have HZ0 := Lib.hid hz0
      clear hz0 hst0
      have KE1_7 : Hid (Els w_7 (fun b => b < w_7.heap.size) xs B1) := Lib.hid (hE1.keep (fun _ _ _ => rfl) (fun _ h => h.2))
      have KE2_7 : Hid (Els w_7 (fun b => b < w_7.heap.size) fs B2) := Lib.hid (hE2.keep (fun _ _ _ => rfl) (fun _ h => h.2))
      clear hE1 hE2
      obtain ⟨w_8, hww_8⟩ : ∃ w_8 : World, w_8 = w_7.alloc (.cells #[.int .i64 st, .int .i64 sn, .int .i64 ss, .slice B1 xs.length d1, .slice B2 fs.length d2] 27) := ⟨_, rfl⟩
      have hbw_8 : Below w_7.heap.size w_7 w_8 := by rw [hww_8]; exact (Below.refl _ _).alloc (by first | exact Nat.le_refl _ | (simp; done) | (simp; omega)) _
      have sqw_8 : w_8.heap.size = w_7.heap.size + 1 := by rw [hww_8]; simp
      have KE_8 : Hid (Els w_8 S rs A) := Lib.hid (KE_7.out.below hbw_8)
      have KG_8 : Hid (Blk' w_8 (w.heap.size) 24 #[.int .i64 (m : Int), .int .i64 (n : Int), .int .i64 gs, .slice A rs.length c]) := Lib.hid (KG_7.out.below hbw_8 KG_7.out.lt)
      have KE1_8 : Hid (Els w_8 (fun b => b < w_7.heap.size) xs B1) := Lib.hid (KE1_7.out.below hbw_8)
      have KE2_8 : Hid (Els w_8 (fun b => b < w_7.heap.size) fs B2) := Lib.hid (KE2_7.out.below hbw_8)
      have QB_8 : Hid (Below w.heap.size w w_8) := Lib.hid (bthen QB_7.out hbw_8 QB_7.out.size)
      have sz_8 : w_7.heap.size + 1 ≤ w_8.heap.size := by rw [sqw_8]; exact Nat.le_refl _
      have KQ_8 : Hid (Blk' w_8 (w_7.heap.size) 27 #[.int .i64 st, .int .i64 sn, .int .i64 ss, .slice B1 xs.length d1, .slice B2 fs.length d2]) := Lib.hid (by rw [hww_8]; exact Blk'.new w_7 _ _)
      have HWw_8 := Lib.hid hww_8
      have SQw_8 := Lib.hid sqw_8
      clear hww_8 hbw_8 sqw_8
      clear KE_7 KG_7 KE1_7 KE2_7 QB_7
      go_upto_region 5 with (fail)
      rw [← HWw_8.out]
      have cQ_8_0 : w_8.cell? ⟨w_7.heap.size, 0, none⟩ = some (.int .i64 st) := KQ_8.out.cell 0
      have cQ_8_1 : w_8.cell? ⟨w_7.heap.size, 1, none⟩ = some (.int .i64 sn) := KQ_8.out.cell 1
      have cQ_8_2 : w_8.cell? ⟨w_7.heap.size, 2, none⟩ = some (.int .i64 ss) := KQ_8.out.cell 2
      have cQ_8_3 : w_8.cell? ⟨w_7.heap.size, 3, none⟩ = some (.slice B1 xs.length d1) := KQ_8.out.cell 3
      have cQ_8_4 : w_8.cell? ⟨w_7.heap.size, 4, none⟩ = some (.slice B2 fs.length d2) := KQ_8.out.cell 4
      have zQ_8 : w_7.heap.size < w_8.heap.size := KQ_8.out.lt
      go_wp2_with fail
      refine (sameGram_any ⟨st, sn, ss, xs⟩ ⟨0, 0, 0, []⟩ B1 none d1 0 _ (fun _ => False) w_8 ⟨q11, q12⟩ ⟨by simp, by omega⟩ KE1_8.out elsZ).mono ?_
      rintro e w_9 ⟨rfl, hbz⟩
      clear cQ_8_0 cQ_8_1 cQ_8_2 cQ_8_3 cQ_8_4 zQ_8
      have KE_9 : Hid (Els w_9 S rs A) := Lib.hid (KE_8.out.below hbz)
      have KG_9 : Hid (Blk' w_9 (w.heap.size) 24 #[.int .i64 (m : Int), .int .i64 (n : Int), .int .i64 gs, .slice A rs.length c]) := Lib.hid (KG_8.out.below hbz KG_8.out.lt)
      have KE1_9 : Hid (Els w_9 (fun b => b < w_7.heap.size) xs B1) := Lib.hid (KE1_8.out.below hbz)
      have KE2_9 : Hid (Els w_9 (fun b => b < w_7.heap.size) fs B2) := Lib.hid (KE2_8.out.below hbz)
      have KQ_9 : Hid (Blk' w_9 (w_7.heap.size) 27 #[.int .i64 st, .int .i64 sn, .int .i64 ss, .slice B1 xs.length d1, .slice B2 fs.length d2]) := Lib.hid (KQ_8.out.below hbz KQ_8.out.lt)
      have QB_9 : Hid (Below w.heap.size w w_9) := Lib.hid (bthen QB_8.out hbz QB_8.out.size)
      have sz_9 : w_8.heap.size ≤ w_9.heap.size := (hbz).size
      clear hbz
      clear KE_8 KG_8 KE1_8 KE2_8 KQ_8 QB_8
      rw [HZ0.out]
      have cG_9_0 : w_9.cell? ⟨w.heap.size, 0, none⟩ = some (.int .i64 (m : Int)) := KG_9.out.cell 0
      have cG_9_1 : w_9.cell? ⟨w.heap.size, 1, none⟩ = some (.int .i64 (n : Int)) := KG_9.out.cell 1
      have cG_9_2 : w_9.cell? ⟨w.heap.size, 2, none⟩ = some (.int .i64 gs) := KG_9.out.cell 2
      have cG_9_3 : w_9.cell? ⟨w.heap.size, 3, none⟩ = some (.slice A rs.length c) := KG_9.out.cell 3
      have zG_9 : w.heap.size < w_9.heap.size := KG_9.out.lt
      go_wp2_with fail
      refine (gramErr_any ⟨(m : Int), (n : Int), gs, rs⟩ A c S _ HI.out hlc hc KE_9.out (fun b hb => by have := HS.out b hb; omega)).mono ?_
      rintro e w_10 ⟨rfl, hbz⟩
      clear cG_9_0 cG_9_1 cG_9_2 cG_9_3 zG_9
      have KE_10 : Hid (Els w_10 S rs A) := Lib.hid (KE_9.out.below hbz)
      have KG_10 : Hid (Blk' w_10 (w.heap.size) 24 #[.int .i64 (m : Int), .int .i64 (n : Int), .int .i64 gs, .slice A rs.length c]) := Lib.hid (KG_9.out.below hbz KG_9.out.lt)
      have KE1_10 : Hid (Els w_10 (fun b => b < w_7.heap.size) xs B1) := Lib.hid (KE1_9.out.below hbz)
      have KE2_10 : Hid (Els w_10 (fun b => b < w_7.heap.size) fs B2) := Lib.hid (KE2_9.out.below hbz)
      have KQ_10 : Hid (Blk' w_10 (w_7.heap.size) 27 #[.int .i64 st, .int .i64 sn, .int .i64 ss, .slice B1 xs.length d1, .slice B2 fs.length d2]) := Lib.hid (KQ_9.out.below hbz KQ_9.out.lt)
      have QB_10 : Hid (Below w.heap.size w w_10) := Lib.hid (bthen QB_9.out hbz QB_9.out.size)
      have sz_10 : w_9.heap.size ≤ w_10.heap.size := (hbz).size
      clear hbz
      clear KE_9 KG_9 KE1_9 KE2_9 KQ_9 QB_9
      rw [HC.out]
      have cG_10_0 : w_10.cell? ⟨w.heap.size, 0, none⟩ = some (.int .i64 (m : Int)) := KG_10.out.cell 0
      have cG_10_1 : w_10.cell? ⟨w.heap.size, 1, none⟩ = some (.int .i64 (n : Int)) := KG_10.out.cell 1
      have cG_10_2 : w_10.cell? ⟨w.heap.size, 2, none⟩ = some (.int .i64 gs) := KG_10.out.cell 2
      have cG_10_3 : w_10.cell? ⟨w.heap.size, 3, none⟩ = some (.slice A rs.length c) := KG_10.out.cell 3
      have zG_10 : w.heap.size < w_10.heap.size := KG_10.out.lt
      go_wp2_with fail
      refine (straight_any ⟨(m : Int), (n : Int), gs, rs⟩ m n A c S _ rfl rfl HC.out hlc hc KE_10.out (fun b hb => by have := HS.out b hb; omega)).mono ?_
      rintro e w_11 hst
      have hbz : Below w_10.heap.size w_10 w_11 := by rcases hst with ⟨_, _, _, h⟩ | ⟨_, _, _, _, _, _, _, _, _, _, _, _, h⟩ <;> exact h
      clear cG_10_0 cG_10_1 cG_10_2 cG_10_3 zG_10
      have KE_11 : Hid (Els w_11 S rs A) := Lib.hid (KE_10.out.below hbz)
      have KG_11 : Hid (Blk' w_11 (w.heap.size) 24 #[.int .i64 (m : Int), .int .i64 (n : Int), .int .i64 gs, .slice A rs.length c]) := Lib.hid (KG_10.out.below hbz KG_10.out.lt)
      have KE1_11 : Hid (Els w_11 (fun b => b < w_7.heap.size) xs B1) := Lib.hid (KE1_10.out.below hbz)
      have KE2_11 : Hid (Els w_11 (fun b => b < w_7.heap.size) fs B2) := Lib.hid (KE2_10.out.below hbz)
      have KQ_11 : Hid (Blk' w_11 (w_7.heap.size) 27 #[.int .i64 st, .int .i64 sn, .int .i64 ss, .slice B1 xs.length d1, .slice B2 fs.length d2]) := Lib.hid (KQ_10.out.below hbz KQ_10.out.lt)
      have QB_11 : Hid (Below w.heap.size w w_11) := Lib.hid (bthen QB_10.out hbz QB_10.out.size)
      have sz_11 : w_10.heap.size ≤ w_11.heap.size := (hbz).size
      clear hbz
      clear KE_10 KG_10 KE1_10 KE2_10 KQ_10 QB_10
      rcases hst with ⟨k', hbad', _⟩ | ⟨_, D1, D2, e1, e2, rfl, p11, p12, hF1, p21, p22, hF2, _⟩
      · exact absurd hbad' HOk.out.not
      rw [← HSG.out] at p11 hF1
      rw [← HFS.out] at p21 hF2
      rw [← HSG.out, ← HFS.out]
      dsimp only at p11 hF1 ⊢
      have KF1_11 : Hid (Els w_11 (fun b => b < w_11.heap.size) xs D1) := Lib.hid (hF1.keep (fun _ _ _ => rfl) (fun _ h => h.2))
      have KF2_11 : Hid (Els w_11 (fun b => b < w_11.heap.size) fs D2) := Lib.hid (hF2.keep (fun _ _ _ => rfl) (fun _ h => h.2))
      clear hF1 hF2
      obtain ⟨w_12, hww_12⟩ : ∃ w_12 : World, w_12 = w_11.alloc (.cells #[.int .i64 st, .int .i64 sn, .int .i64 ss, .slice D1 xs.length e1] 24) := ⟨_, rfl⟩
      have hbw_12 : Below w_11.heap.size w_11 w_12 := by rw [hww_12]; exact (Below.refl _ _).alloc (by first | exact Nat.le_refl _ | (simp; done) | (simp; omega)) _
      have sqw_12 : w_12.heap.size = w_11.heap.size + 1 := by rw [hww_12]; simp
      have KE_12 : Hid (Els w_12 S rs A) := Lib.hid (KE_11.out.below hbw_12)
      have KG_12 : Hid (Blk' w_12 (w.heap.size) 24 #[.int .i64 (m : Int), .int .i64 (n : Int), .int .i64 gs, .slice A rs.length c]) := Lib.hid (KG_11.out.below hbw_12 KG_11.out.lt)
      have KE1_12 : Hid (Els w_12 (fun b => b < w_7.heap.size) xs B1) := Lib.hid (KE1_11.out.below hbw_12)
      have KE2_12 : Hid (Els w_12 (fun b => b < w_7.heap.size) fs B2) := Lib.hid (KE2_11.out.below hbw_12)
      have KQ_12 : Hid (Blk' w_12 (w_7.heap.size) 27 #[.int .i64 st, .int .i64 sn, .int .i64 ss, .slice B1 xs.length d1, .slice B2 fs.length d2]) := Lib.hid (KQ_11.out.below hbw_12 KQ_11.out.lt)
      have KF1_12 : Hid (Els w_12 (fun b => b < w_11.heap.size) xs D1) := Lib.hid (KF1_11.out.below hbw_12)
      have KF2_12 : Hid (Els w_12 (fun b => b < w_11.heap.size) fs D2) := Lib.hid (KF2_11.out.below hbw_12)
      have QB_12 : Hid (Below w.heap.size w w_12) := Lib.hid (bthen QB_11.out hbw_12 QB_11.out.size)
      have sz_12 : w_11.heap.size + 1 ≤ w_12.heap.size := by rw [sqw_12]; exact Nat.le_refl _
      have KY_12 : Hid (Blk' w_12 (w_11.heap.size) 24 #[.int .i64 st, .int .i64 sn, .int .i64 ss, .slice D1 xs.length e1]) := Lib.hid (by rw [hww_12]; exact Blk'.new w_11 _ _)
      have HWw_12 := Lib.hid hww_12
      have SQw_12 := Lib.hid sqw_12
      clear hww_12 hbw_12 sqw_12
      clear KE_11 KG_11 KE1_11 KE2_11 KQ_11 KF1_11 KF2_11 QB_11
      go_upto_region 10 with (fail)
      rw [← HWw_12.out]
      have cQ_12_0 : w_12.cell? ⟨w_7.heap.size, 0, none⟩ = some (.int .i64 st) := KQ_12.out.cell 0
      have cQ_12_1 : w_12.cell? ⟨w_7.heap.size, 1, none⟩ = some (.int .i64 sn) := KQ_12.out.cell 1
      have cQ_12_2 : w_12.cell? ⟨w_7.heap.size, 2, none⟩ = some (.int .i64 ss) := KQ_12.out.cell 2
      have cQ_12_3 : w_12.cell? ⟨w_7.heap.size, 3, none⟩ = some (.slice B1 xs.length d1) := KQ_12.out.cell 3
      have cQ_12_4 : w_12.cell? ⟨w_7.heap.size, 4, none⟩ = some (.slice B2 fs.length d2) := KQ_12.out.cell 4
      have zQ_12 : w_7.heap.size < w_12.heap.size := KQ_12.out.lt
      have cY_12_0 : w_12.cell? ⟨w_11.heap.size, 0, none⟩ = some (.int .i64 st) := KY_12.out.cell 0
      have cY_12_1 : w_12.cell? ⟨w_11.heap.size, 1, none⟩ = some (.int .i64 sn) := KY_12.out.cell 1
      have cY_12_2 : w_12.cell? ⟨w_11.heap.size, 2, none⟩ = some (.int .i64 ss) := KY_12.out.cell 2
      have cY_12_3 : w_12.cell? ⟨w_11.heap.size, 3, none⟩ = some (.slice D1 xs.length e1) := KY_12.out.cell 3
      have zY_12 : w_11.heap.size < w_12.heap.size := KY_12.out.lt
      go_wp2_with fail
      refine (sameGram_any ⟨st, sn, ss, xs⟩ ⟨st, sn, ss, xs⟩ B1 D1 d1 e1 _ _ w_12 ⟨q11, q12⟩ ⟨p11, p12⟩ KE1_12.out KF1_12.out).mono ?_
      rintro e w_13 ⟨rfl, hbz⟩
      clear cQ_12_0 cQ_12_1 cQ_12_2 cQ_12_3 cQ_12_4 zQ_12 cY_12_0 cY_12_1 cY_12_2 cY_12_3 zY_12
      have KE_13 : Hid (Els w_13 S rs A) := Lib.hid (KE_12.out.below hbz)
      have KG_13 : Hid (Blk' w_13 (w.heap.size) 24 #[.int .i64 (m : Int), .int .i64 (n : Int), .int .i64 gs, .slice A rs.length c]) := Lib.hid (KG_12.out.below hbz KG_12.out.lt)
      have KE1_13 : Hid (Els w_13 (fun b => b < w_7.heap.size) xs B1) := Lib.hid (KE1_12.out.below hbz)
      have KE2_13 : Hid (Els w_13 (fun b => b < w_7.heap.size) fs B2) := Lib.hid (KE2_12.out.below hbz)
      have KQ_13 : Hid (Blk' w_13 (w_7.heap.size) 27 #[.int .i64 st, .int .i64 sn, .int .i64 ss, .slice B1 xs.length d1, .slice B2 fs.length d2]) := Lib.hid (KQ_12.out.below hbz KQ_12.out.lt)
      have KF1_13 : Hid (Els w_13 (fun b => b < w_11.heap.size) xs D1) := Lib.hid (KF1_12.out.below hbz)
      have KF2_13 : Hid (Els w_13 (fun b => b < w_11.heap.size) fs D2) := Lib.hid (KF2_12.out.below hbz)
      have KY_13 : Hid (Blk' w_13 (w_11.heap.size) 24 #[.int .i64 st, .int .i64 sn, .int .i64 ss, .slice D1 xs.length e1]) := Lib.hid (KY_12.out.below hbz KY_12.out.lt)
      have QB_13 : Hid (Below w.heap.size w w_13) := Lib.hid (bthen QB_12.out hbz QB_12.out.size)
      have sz_13 : w_12.heap.size ≤ w_13.heap.size := (hbz).size
      clear hbz
      clear KE_12 KG_12 KE1_12 KE2_12 KQ_12 KF1_12 KF2_12 KY_12 QB_12
      obtain ⟨tb, htb⟩ : ∃ tb, tb = decide ((⟨st, sn, ss, xs⟩ : Gram) = ⟨st, sn, ss, xs⟩) := ⟨_, rfl⟩
      rw [← htb]
      have htb2 : tb = true := by rw [htb]; simp
      subst htb2
      clear htb
      have cQ_13_0 : w_13.cell? ⟨w_7.heap.size, 0, none⟩ = some (.int .i64 st) := KQ_13.out.cell 0
      have cQ_13_1 : w_13.cell? ⟨w_7.heap.size, 1, none⟩ = some (.int .i64 sn) := KQ_13.out.cell 1
      have cQ_13_2 : w_13.cell? ⟨w_7.heap.size, 2, none⟩ = some (.int .i64 ss) := KQ_13.out.cell 2
      have cQ_13_3 : w_13.cell? ⟨w_7.heap.size, 3, none⟩ = some (.slice B1 xs.length d1) := KQ_13.out.cell 3
      have cQ_13_4 : w_13.cell? ⟨w_7.heap.size, 4, none⟩ = some (.slice B2 fs.length d2) := KQ_13.out.cell 4
      have zQ_13 : w_7.heap.size < w_13.heap.size := KQ_13.out.lt
      go_wp2_with fail
      refine (equalInt_any B2 D2 fs fs _ _ _ _ _ _ w_13 rfl rfl (by omega) (by omega) KE2_13.out KF2_13.out).mono ?_
      rintro e w_14 ⟨rfl, hbz⟩
      clear cQ_13_0 cQ_13_1 cQ_13_2 cQ_13_3 cQ_13_4 zQ_13
      have KE_14 : Hid (Els w_14 S rs A) := Lib.hid (KE_13.out.below hbz)
      have KG_14 : Hid (Blk' w_14 (w.heap.size) 24 #[.int .i64 (m : Int), .int .i64 (n : Int), .int .i64 gs, .slice A rs.length c]) := Lib.hid (KG_13.out.below hbz KG_13.out.lt)
      have KE1_14 : Hid (Els w_14 (fun b => b < w_7.heap.size) xs B1) := Lib.hid (KE1_13.out.below hbz)
      have KE2_14 : Hid (Els w_14 (fun b => b < w_7.heap.size) fs B2) := Lib.hid (KE2_13.out.below hbz)
      have KQ_14 : Hid (Blk' w_14 (w_7.heap.size) 27 #[.int .i64 st, .int .i64 sn, .int .i64 ss, .slice B1 xs.length d1, .slice B2 fs.length d2]) := Lib.hid (KQ_13.out.below hbz KQ_13.out.lt)
      have KF1_14 : Hid (Els w_14 (fun b => b < w_11.heap.size) xs D1) := Lib.hid (KF1_13.out.below hbz)
      have KF2_14 : Hid (Els w_14 (fun b => b < w_11.heap.size) fs D2) := Lib.hid (KF2_13.out.below hbz)
      have KY_14 : Hid (Blk' w_14 (w_11.heap.size) 24 #[.int .i64 st, .int .i64 sn, .int .i64 ss, .slice D1 xs.length e1]) := Lib.hid (KY_13.out.below hbz KY_13.out.lt)
      have QB_14 : Hid (Below w.heap.size w w_14) := Lib.hid (bthen QB_13.out hbz QB_13.out.size)
      have sz_14 : w_13.heap.size ≤ w_14.heap.size := (hbz).size
      clear hbz
      clear KE_13 KG_13 KE1_13 KE2_13 KQ_13 KF1_13 KF2_13 KY_13 QB_13
      go_wp2
      go_ret
      exact ⟨ret_bool (by simp), QB_14.out⟩
  · skip
    obtain ⟨E, hE⟩ : ∃ E, E = checkI ⟨gt, gn, gs, rs⟩ := ⟨_, rfl⟩
    have HE := Lib.hid hE
    have HK := Lib.hid hck
    have hE0 : (E != 0) = true := by rw [hE]; simpa using hck
    clear hE hck
    have cG_6_0 : w_6.cell? ⟨w.heap.size, 0, none⟩ = some (.int .i64 gt) := KG_6.out.cell 0
    have cG_6_1 : w_6.cell? ⟨w.heap.size, 1, none⟩ = some (.int .i64 gn) := KG_6.out.cell 1
    have cG_6_2 : w_6.cell? ⟨w.heap.size, 2, none⟩ = some (.int .i64 gs) := KG_6.out.cell 2
    have cG_6_3 : w_6.cell? ⟨w.heap.size, 3, none⟩ = some (.slice A rs.length c) := KG_6.out.cell 3
    have zG_6 : w.heap.size < w_6.heap.size := KG_6.out.lt
    go_wp2_with fail
    refine (leftPub_bad ⟨gt, gn, gs, rs⟩ A c S _ HK.out hlc hc KE_6.out (fun b hb => by have := HS.out b hb; omega)).mono ?_
    rintro e w_7 ⟨rfl, hbz⟩
    clear cG_6_0 cG_6_1 cG_6_2 cG_6_3 zG_6
    have KE_7 : Hid (Els w_7 S rs A) := Lib.hid (KE_6.out.below hbz)
    have KG_7 : Hid (Blk' w_7 (w.heap.size) 24 #[.int .i64 gt, .int .i64 gn, .int .i64 gs, .slice A rs.length c]) := Lib.hid (KG_6.out.below hbz KG_6.out.lt)
    have QB_7 : Hid (Below w.heap.size w w_7) := Lib.hid (bthen QB_6.out hbz QB_6.out.size)
    have sz_7 : w_6.heap.size ≤ w_7.heap.size := (hbz).size
    clear hbz
    clear KE_6 KG_6 QB_6
    rw [← HE.out]
    obtain ⟨w_8, hww_8⟩ : ∃ w_8 : World, w_8 = w_7.alloc (.cells #[.int .i64 0, .int .i64 0, .int .i64 0, .slice none 0 0, .slice none 0 0] 27) := ⟨_, rfl⟩
    have hbw_8 : Below w_7.heap.size w_7 w_8 := by rw [hww_8]; exact (Below.refl _ _).alloc (by first | exact Nat.le_refl _ | (simp; done) | (simp; omega)) _
    have sqw_8 : w_8.heap.size = w_7.heap.size + 1 := by rw [hww_8]; simp
    have KE_8 : Hid (Els w_8 S rs A) := Lib.hid (KE_7.out.below hbw_8)
    have KG_8 : Hid (Blk' w_8 (w.heap.size) 24 #[.int .i64 gt, .int .i64 gn, .int .i64 gs, .slice A rs.length c]) := Lib.hid (KG_7.out.below hbw_8 KG_7.out.lt)
    have QB_8 : Hid (Below w.heap.size w w_8) := Lib.hid (bthen QB_7.out hbw_8 QB_7.out.size)
    have sz_8 : w_7.heap.size + 1 ≤ w_8.heap.size := by rw [sqw_8]; exact Nat.le_refl _
    have KQ_8 : Hid (Blk' w_8 (w_7.heap.size) 27 #[.int .i64 0, .int .i64 0, .int .i64 0, .slice none 0 0, .slice none 0 0]) := Lib.hid (by rw [hww_8]; exact Blk'.new w_7 _ _)
    have HWw_8 := Lib.hid hww_8
    have SQw_8 := Lib.hid sqw_8
    clear hww_8 hbw_8 sqw_8
    clear KE_7 KG_7 QB_7
    go_upto_region 5 with (fail)
    rw [← HWw_8.out]
    have cQ_8_0 : w_8.cell? ⟨w_7.heap.size, 0, none⟩ = some (.int .i64 0) := KQ_8.out.cell 0
    have cQ_8_1 : w_8.cell? ⟨w_7.heap.size, 1, none⟩ = some (.int .i64 0) := KQ_8.out.cell 1
    have cQ_8_2 : w_8.cell? ⟨w_7.heap.size, 2, none⟩ = some (.int .i64 0) := KQ_8.out.cell 2
    have cQ_8_3 : w_8.cell? ⟨w_7.heap.size, 3, none⟩ = some (.slice none 0 0) := KQ_8.out.cell 3
    have cQ_8_4 : w_8.cell? ⟨w_7.heap.size, 4, none⟩ = some (.slice none 0 0) := KQ_8.out.cell 4
    have zQ_8 : w_7.heap.size < w_8.heap.size := KQ_8.out.lt
    go_wp2_with fail
    refine (sameGram_any ⟨0, 0, 0, []⟩ ⟨0, 0, 0, []⟩ none none 0 0 (fun _ => False) (fun _ => False) w_8 ⟨by simp, by omega⟩ ⟨by simp, by omega⟩ elsZ elsZ).mono ?_
    rintro e w_9 ⟨rfl, hbz⟩
    clear cQ_8_0 cQ_8_1 cQ_8_2 cQ_8_3 cQ_8_4 zQ_8
    have KE_9 : Hid (Els w_9 S rs A) := Lib.hid (KE_8.out.below hbz)
    have KG_9 : Hid (Blk' w_9 (w.heap.size) 24 #[.int .i64 gt, .int .i64 gn, .int .i64 gs, .slice A rs.length c]) := Lib.hid (KG_8.out.below hbz KG_8.out.lt)
    have KQ_9 : Hid (Blk' w_9 (w_7.heap.size) 27 #[.int .i64 0, .int .i64 0, .int .i64 0, .slice none 0 0, .slice none 0 0]) := Lib.hid (KQ_8.out.below hbz KQ_8.out.lt)
    have QB_9 : Hid (Below w.heap.size w w_9) := Lib.hid (bthen QB_8.out hbz QB_8.out.size)
    have sz_9 : w_8.heap.size ≤ w_9.heap.size := (hbz).size
    clear hbz
    clear KE_8 KG_8 KQ_8 QB_8
    rw [zero_gram]
    have cQ_9_0 : w_9.cell? ⟨w_7.heap.size, 0, none⟩ = some (.int .i64 0) := KQ_9.out.cell 0
    have cQ_9_1 : w_9.cell? ⟨w_7.heap.size, 1, none⟩ = some (.int .i64 0) := KQ_9.out.cell 1
    have cQ_9_2 : w_9.cell? ⟨w_7.heap.size, 2, none⟩ = some (.int .i64 0) := KQ_9.out.cell 2
    have cQ_9_3 : w_9.cell? ⟨w_7.heap.size, 3, none⟩ = some (.slice none 0 0) := KQ_9.out.cell 3
    have cQ_9_4 : w_9.cell? ⟨w_7.heap.size, 4, none⟩ = some (.slice none 0 0) := KQ_9.out.cell 4
    have zQ_9 : w_7.heap.size < w_9.heap.size := KQ_9.out.lt
    have cG_9_0 : w_9.cell? ⟨w.heap.size, 0, none⟩ = some (.int .i64 gt) := KG_9.out.cell 0
    have cG_9_1 : w_9.cell? ⟨w.heap.size, 1, none⟩ = some (.int .i64 gn) := KG_9.out.cell 1
    have cG_9_2 : w_9.cell? ⟨w.heap.size, 2, none⟩ = some (.int .i64 gs) := KG_9.out.cell 2
    have cG_9_3 : w_9.cell? ⟨w.heap.size, 3, none⟩ = some (.slice A rs.length c) := KG_9.out.cell 3
    have zG_9 : w.heap.size < w_9.heap.size := KG_9.out.lt
    go_wp2_with fail
    refine (gramErr_any ⟨gt, gn, gs, rs⟩ A c S _ HI.out hlc hc KE_9.out (fun b hb => by have := HS.out b hb; omega)).mono ?_
    rintro e w_10 ⟨rfl, hbz⟩
    clear cQ_9_0 cQ_9_1 cQ_9_2 cQ_9_3 cQ_9_4 zQ_9 cG_9_0 cG_9_1 cG_9_2 cG_9_3 zG_9
    have KE_10 : Hid (Els w_10 S rs A) := Lib.hid (KE_9.out.below hbz)
    have KG_10 : Hid (Blk' w_10 (w.heap.size) 24 #[.int .i64 gt, .int .i64 gn, .int .i64 gs, .slice A rs.length c]) := Lib.hid (KG_9.out.below hbz KG_9.out.lt)
    have KQ_10 : Hid (Blk' w_10 (w_7.heap.size) 27 #[.int .i64 0, .int .i64 0, .int .i64 0, .slice none 0 0, .slice none 0 0]) := Lib.hid (KQ_9.out.below hbz KQ_9.out.lt)
    have QB_10 : Hid (Below w.heap.size w w_10) := Lib.hid (bthen QB_9.out hbz QB_9.out.size)
    have sz_10 : w_9.heap.size ≤ w_10.heap.size := (hbz).size
    clear hbz
    clear KE_9 KG_9 KQ_9 QB_9
    rw [← HE.out]
    go_wp2
    go_ret
    exact ⟨ret_bool (by simp), QB_10.out⟩

theorem leftrecSays_row (g : Gram) (v : Value) (W : World) (h0 : Vl W (OldS W) g v) :
    Calls Tryd.prog 3 #[v] W fun e W' => e = .returned (.bool true) ∧ Below W.heap.size W W' := by
  obtain ⟨s, rfl, k1, k2, k3, hs⟩ := h0.gram
  obtain ⟨A, c, rfl, hlc, hc, hA⟩ := hs.slice
  exact leftrecSays_any g A c (OldS W) W ⟨k1, k2, k3⟩ hlc hc hA (fun b h => h)
end Go.Proofs.YtagcnhiinmiklaaDoor
