/- Contract: mean.check. -/
import Derived.Test.YtjdojogjogenkaaDoorQEnds
import Derived.Test.YtjdojogjogenkaaDoorQw1
namespace Go.Proofs.YtjdojogjogenkaaDoor
open Go.RowKit
set_option linter.unusedVariables false
theorem shr_bit (x k : Nat) : (x / 2 ^ k) &&& 1 = if x.testBit k = true then 1 else 0 := by
 rw [Nat.and_one_is_mod, ← Nat.shiftRight_eq_div_pow]
 have h : x.testBit k = decide ((x >>> k) % 2 = 1) := by
  rw [Nat.testBit_eq_decide_div_mod_eq, Nat.shiftRight_eq_div_pow]
 rw [h]
 by_cases e : (x >>> k) % 2 = 1
 ·rw [if_pos (by simp [e]), e]
 ·rw [if_neg (by simp [e])]
  omega
set_option maxRecDepth 100000 in
set_option maxHeartbeats 4000000 in
theorem mcheck_any (g : Gram) (ws : List Int) (A B : Option Addr) (c cw : Nat) (S Sw : Nat → Prop) (w : World) (hck : checkI g = 0) (hlc : g.rules.length ≤ c) (hc : c ≤ 9223372036854775807) (hA : Els w S g.rules A) (hS : ∀ b, S b → b < w.heap.size) (hB : Els w Sw ws B) (hSw : ∀ b, Sw b → b < w.heap.size) (hl : ws.length ≤ 9223372036854775807) (hw : wordE g.terms ws 12 = 0) :
  Calls Tryd.prog 55 #[.agg #[.int .i64 g.terms, .int .i64 g.nons, .int .i64 g.start, .slice A g.rules.length c], .slice B ws.length cw] w fun e w' => e = .returned (.int .i64 0) ∧ Below w.heap.size w w' := by
 obtain ⟨gt, gn, gs, rs⟩ := g
 dsimp only at *
 have HA := Lib.hid hA
 have HS := Lib.hid hS
 have HB := Lib.hid hB
 have HSw := Lib.hid hSw
 have HC := Lib.hid hck
 have HW := Lib.hid hw
 have HG0 := Lib.hid (Blk'.new w 24 #[.int .i64 gt, .int .i64 gn, .int .i64 gs, .slice A rs.length c])
 have HB0 : Hid (Below w.heap.size w (w.alloc (.cells #[.int .i64 gt, .int .i64 gn, .int .i64 gs, .slice A rs.length c] 24))) := Lib.hid ((Below.refl _ _).alloc (Nat.le_refl _) _)
 clear hA hS hB hSw hck hw
 go_enter Tryd.func55, Tryd.ntmps55
 go_wp2_with fail
 refine (check_any ⟨gt, gn, gs, rs⟩ A c S _ hlc hc (HA.out.belowB HB0.out HS.out)).mono ?_
 rintro e w1 ⟨rfl, hb1⟩
 rw [HC.out]
 have HB1 := Lib.hid (bthen HB0.out hb1 HB0.out.size)
 have HG1 := Lib.hid (HG0.out.below hb1 (by simp))
 have a0 : w1.cell? ⟨w.heap.size, 0, none⟩ = some (.int .i64 gt) := HG1.out.cell 0
 have a1 : w1.cell? ⟨w.heap.size, 1, none⟩ = some (.int .i64 gn) := HG1.out.cell 1
 have a2 : w1.cell? ⟨w.heap.size, 2, none⟩ = some (.int .i64 gs) := HG1.out.cell 2
 have a3 : w1.cell? ⟨w.heap.size, 3, none⟩ = some (.slice A rs.length c) := HG1.out.cell 3
 have zG : w.heap.size < w1.heap.size := HG1.out.lt
 clear hb1
 go_wp2_with fail
 refine (word_any gt gn gs 12 _ ws B cw Sw w1 hl (HB.out.belowB HB1.out HSw.out) (fun b hb => by have := HSw.out b hb; have := HB1.out.size; omega) ⟨A, rs.length, c, rfl⟩).mono ?_
 rintro e w2 ⟨rfl, hb2⟩
 rw [HW.out]
 have HB2 := Lib.hid (bthen HB1.out hb2 HB1.out.size)
 clear hb2
 go_wp2
 go_ret
 exact ⟨rfl, HB2.out⟩
end Go.Proofs.YtjdojogjogenkaaDoor
