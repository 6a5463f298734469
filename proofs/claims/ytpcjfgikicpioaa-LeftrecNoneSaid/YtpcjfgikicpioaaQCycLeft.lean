/- Contract: cycle.Left of a valid grammar. -/
import Derived.Test.YtpcjfgikicpioaaQRecur
namespace Go.Proofs.Ytpcjfgikicpioaa
open Go.RowKit
set_option linter.unusedVariables false

set_option maxRecDepth 100000 in
set_option maxHeartbeats 4000000 in
theorem left_any (g : Gram) (m n : Nat) (A : Option Addr) (c : Nat) (S : Nat → Prop) (w : World) (hgt : g.terms = (m : Int)) (hgn : g.nons = (n : Int)) (hck : checkI g = 0) (hlc : g.rules.length ≤ c) (hc : c ≤ 9223372036854775807) (hA : Els w S g.rules A) (hS : ∀ b, S b → b < w.heap.size) :
    Calls Try.prog 19 #[.agg #[.int .i64 g.terms, .int .i64 g.nons, .int .i64 g.start, .slice A g.rules.length c]] w fun en w' => ∃ v l, en = .returned (.tuple #[v, .int .i64 0]) ∧ FiltIs (fun j => Plus (LedE g) j j) n l ∧ Own w' (fun _ => False) w.heap.size 3 v l ∧ Below w.heap.size w w' := by
  obtain ⟨gt, gn, gs, rs⟩ := g
  dsimp only at *
  have HB0 : Hid (Below w.heap.size w (w.alloc (.cells #[.int .i64 gt, .int .i64 gn, .int .i64 gs, .slice A rs.length c] 37))) := Lib.hid ((Below.refl _ _).alloc (Nat.le_refl _) _)
  have HG0 := Lib.hid (Blk'.new w 37 #[.int .i64 gt, .int .i64 gn, .int .i64 gs, .slice A rs.length c])
  have HA := Lib.hid hA
  have HS := Lib.hid hS
  have HC := Lib.hid hck
  have HT := Lib.hid (And.intro hgt hgn)
  clear hA hS hck hgt hgn
  go_enter Try.func19, Try.ntmps19
  go_wp2_with fail
  refine (check_any ⟨gt, gn, gs, rs⟩ A c S _ hlc hc (HA.out.below HB0.out)).mono ?_
  rintro e w1 ⟨rfl, hb1⟩
  rw [HC.out]
  have HB1 := Lib.hid (bthen HB0.out hb1 HB0.out.size)
  have HG1 := Lib.hid (HG0.out.below hb1 (by simp))
  have a0 : w1.cell? ⟨w.heap.size, 0, none⟩ = some (.int .i64 gt) := HG1.out.cell 0
  have a1 : w1.cell? ⟨w.heap.size, 1, none⟩ = some (.int .i64 gn) := HG1.out.cell 1
  have a2 : w1.cell? ⟨w.heap.size, 2, none⟩ = some (.int .i64 gs) := HG1.out.cell 2
  have a3 : w1.cell? ⟨w.heap.size, 3, none⟩ = some (.slice A rs.length c) := HG1.out.cell 3
  have zG : w.heap.size < w1.heap.size := HG1.out.lt
  clear hb1
  go_wp2_with fail
  refine (recur_any ⟨gt, gn, gs, rs⟩ m n A c S w1 HT.out.1 HT.out.2 HC.out hlc hc (HA.out.belowB HB1.out HS.out) (fun b hb => by have := HS.out b hb; have := HB1.out.size; omega)).mono ?_
  rintro en w2 ⟨v, l, rfl, hF, hown, hb2⟩
  have HF := Lib.hid hF
  have HB2 := Lib.hid (bthen HB1.out hb2 HB1.out.size)
  have HO := Lib.hid (hown.base HB1.out.size)
  clear hF hown hb2 a0 a1 a2 a3
  go_wp2
  go_ret2
  exact ⟨v, l, rfl, HF.out, HO.out, HB2.out⟩
end Go.Proofs.Ytpcjfgikicpioaa
