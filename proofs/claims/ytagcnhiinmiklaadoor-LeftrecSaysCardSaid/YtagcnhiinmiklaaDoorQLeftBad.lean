/- Contracts: leftrec.of and leftrec.Of of an invalid grammar. -/
import Derived.Test.YtagcnhiinmiklaaDoorQValid
import Derived.Test.YtagcnhiinmiklaaDoorQCheck
import Derived.Test.YtagcnhiinmiklaaDoorQp1
namespace Go.Proofs.YtagcnhiinmiklaaDoor
open Go.RowKit
set_option linter.unusedVariables false

set_option maxRecDepth 100000 in
set_option maxHeartbeats 1000000 in
theorem leftof_bad (g : Gram) (A : Option Addr) (c : Nat) (S : Nat → Prop) (w : World) (hck : ¬ checkI g = 0) (hlc : g.rules.length ≤ c) (hc : c ≤ 9223372036854775807) (hA : Els w S g.rules A) :
    Calls Tryd.prog 10 #[.agg #[.int .i64 g.terms, .int .i64 g.nons, .int .i64 g.start, .slice A g.rules.length c]] w fun e w' => e = .returned (.tuple #[.pointer none, .int .i64 (checkI g)]) ∧ Below w.heap.size w w' := by
  obtain ⟨gt, gn, gs, rs⟩ := g
  dsimp only at *
  have HB0 : Hid (Below w.heap.size w (w.alloc (.cells #[.int .i64 gt, .int .i64 gn, .int .i64 gs, .slice A rs.length c] 24))) := Lib.hid ((Below.refl _ _).alloc (Nat.le_refl _) _)
  have HA := Lib.hid hA
  clear hA
  go_enter Tryd.func10, Tryd.ntmps10
  go_wp2_with fail
  refine (check_any ⟨gt, gn, gs, rs⟩ A c S _ hlc hc (HA.out.below HB0.out)).mono ?_
  rintro e w1 ⟨rfl, hb1⟩
  have HB1 := Lib.hid (bthen HB0.out hb1 HB0.out.size)
  have hce' : (checkI ⟨gt, gn, gs, rs⟩ != 0) = true := by simpa using hck
  obtain ⟨ce, hE⟩ : ∃ ce, checkI ⟨gt, gn, gs, rs⟩ = ce := ⟨_, rfl⟩
  rw [hE] at hce'
  rw [hE]
  have HE := Lib.hid hE
  clear hE hb1 hck
  go_wp2
  go_ret2
  exact ⟨by rw [HE.out]; rfl, HB1.out⟩

set_option maxRecDepth 100000 in
set_option maxHeartbeats 8000000 in
theorem leftPub_bad (g : Gram) (A : Option Addr) (c : Nat) (S : Nat → Prop) (w : World) (hck : ¬ checkI g = 0) (hlc : g.rules.length ≤ c) (hc : c ≤ 9223372036854775807) (hA : Els w S g.rules A) (hS : ∀ b, S b → b < w.heap.size) :
    Calls Tryd.prog 4 #[.agg #[.int .i64 g.terms, .int .i64 g.nons, .int .i64 g.start, .slice A g.rules.length c]] w fun e w' => e = .returned (.tuple #[.agg #[.int .i64 0, .int .i64 0, .int .i64 0, .slice none 0 0, .slice none 0 0], .int .i64 (checkI g)]) ∧ Below w.heap.size w w' := by
  obtain ⟨gt, gn, gs, rs⟩ := g
  dsimp only at *
  obtain ⟨w1, hw1⟩ : ∃ w1 : World, w1 = (w.alloc (.cells #[.int .i64 gt, .int .i64 gn, .int .i64 gs, .slice A rs.length c] 24)).alloc (.cells #[.int .i64 0, .int .i64 0, .int .i64 0, .slice none 0 0, .slice none 0 0] 27) := ⟨_, rfl⟩
  have HW1 := Lib.hid hw1
  have hb1 : Below w.heap.size w w1 := by rw [hw1]; exact ((Below.refl _ _).alloc (Nat.le_refl _) _).alloc (by simp) _
  have hG1 : Blk' w1 w.heap.size 24 #[.int .i64 gt, .int .i64 gn, .int .i64 gs, .slice A rs.length c] := by rw [hw1]; exact (Blk'.new w _ _).alloc _
  have hR1 : Blk' w1 (w.heap.size + 1) 27 #[.int .i64 0, .int .i64 0, .int .i64 0, .slice none 0 0, .slice none 0 0] := by rw [hw1]; exact Blk'.new' _ _ _ (by simp)
  have HB1 := Lib.hid hb1
  have HR1 := Lib.hid hR1
  have HA := Lib.hid (hA.below hb1)
  have HS := Lib.hid hS
  have HC := Lib.hid hck
  have a0 : w1.cell? ⟨w.heap.size, 0, none⟩ = some (.int .i64 gt) := hG1.cell 0
  have a1 : w1.cell? ⟨w.heap.size, 1, none⟩ = some (.int .i64 gn) := hG1.cell 1
  have a2 : w1.cell? ⟨w.heap.size, 2, none⟩ = some (.int .i64 gs) := hG1.cell 2
  have a3 : w1.cell? ⟨w.heap.size, 3, none⟩ = some (.slice A rs.length c) := hG1.cell 3
  have zG : w.heap.size < w1.heap.size := hG1.lt
  clear hw1 hb1 hG1 hR1 hA hS hck
  go_enter Tryd.func4, Tryd.ntmps4
  go_upto_region 1 with (fail)
  rw [← HW1.out]
  go_wp2_with fail
  refine (leftof_bad ⟨gt, gn, gs, rs⟩ A c S w1 HC.out hlc hc HA.out).mono ?_
  rintro e w2 ⟨rfl, hb2⟩
  have HB2 := Lib.hid (bthen HB1.out hb2 HB1.out.size)
  have HR2 := Lib.hid (HR1.out.below hb2 HR1.out.lt)
  obtain ⟨k, hE⟩ : ∃ k, checkI ⟨gt, gn, gs, rs⟩ = k := ⟨_, rfl⟩
  rw [hE]
  have hk0 : (k != 0) = true := by have := HC.out; rw [hE] at this; simp [this]
  have HE := Lib.hid hE
  have r0 : w2.cell? ⟨w.heap.size + 1, 0, none⟩ = some (.int .i64 0) := HR2.out.cell 0
  have f0 := HR2.out.frozen 0
  have r1 : w2.cell? ⟨w.heap.size + 1, 1, none⟩ = some (.int .i64 0) := HR2.out.cell 1
  have f1 := HR2.out.frozen 1
  have r2 : w2.cell? ⟨w.heap.size + 1, 2, none⟩ = some (.int .i64 0) := HR2.out.cell 2
  have f2 := HR2.out.frozen 2
  have r3 : w2.cell? ⟨w.heap.size + 1, 3, none⟩ = some (.slice none 0 0) := HR2.out.cell 3
  have f3 := HR2.out.frozen 3
  have r4 : w2.cell? ⟨w.heap.size + 1, 4, none⟩ = some (.slice none 0 0) := HR2.out.cell 4
  have f4 := HR2.out.frozen 4
  have zR2 : w.heap.size + 1 < w2.heap.size := HR2.out.lt
  clear a0 a1 a2 a3 zG hb2 hE
  go_wp2_with fail
  generalize hwF : World.setCell _ _ _ = wF
  have hRF : Blk' wF (w.heap.size + 1) 27 #[.int .i64 0, .int .i64 0, .int .i64 0, .slice none 0 0, .slice none 0 0] := by rw [← hwF]; exact ((((HR2.out.set_ 0 _).set_ 1 _).set_ 2 _).set_ 3 _).set_ 4 _
  have hkF : Below w.heap.size w wF := by rw [← hwF]; exact ((((HB2.out.setCell (p := ⟨w.heap.size + 1, 0, none⟩) (Nat.le_succ _) _).setCell (p := ⟨w.heap.size + 1, 1, none⟩) (Nat.le_succ _) _).setCell (p := ⟨w.heap.size + 1, 2, none⟩) (Nat.le_succ _) _).setCell (p := ⟨w.heap.size + 1, 3, none⟩) (Nat.le_succ _) _).setCell (p := ⟨w.heap.size + 1, 4, none⟩) (Nat.le_succ _) _
  have u0 : wF.cell? ⟨w.heap.size + 1, 0, none⟩ = some (.int .i64 0) := hRF.cell 0
  have u1 : wF.cell? ⟨w.heap.size + 1, 1, none⟩ = some (.int .i64 0) := hRF.cell 1
  have u2 : wF.cell? ⟨w.heap.size + 1, 2, none⟩ = some (.int .i64 0) := hRF.cell 2
  have u3 : wF.cell? ⟨w.heap.size + 1, 3, none⟩ = some (.slice none 0 0) := hRF.cell 3
  have u4 : wF.cell? ⟨w.heap.size + 1, 4, none⟩ = some (.slice none 0 0) := hRF.cell 4
  clear hwF
  exact bodyPost_ret (v := .tuple #[.agg #[.int .i64 0, .int .i64 0, .int .i64 0, .slice none 0 0, .slice none 0 0], .int .i64 k]) (by simp [results, Tryd.results4, go_sem, u0, u1, u2, u3, u4]) rfl ⟨by rw [HE.out], hkF⟩
end Go.Proofs.YtagcnhiinmiklaaDoor
