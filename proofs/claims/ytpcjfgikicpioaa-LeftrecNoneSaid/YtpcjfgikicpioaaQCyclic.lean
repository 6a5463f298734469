/- Contract: cycle.Cyclic. -/
import Derived.Test.YtpcjfgikicpioaaQCycFind
namespace Go.Proofs.Ytpcjfgikicpioaa
open Go.RowKit
set_option linter.unusedVariables false

def RetCyc (g : Gram) (n : Nat) (w : World) (e : Ending) (w' : World) : Prop :=
  (e = .returned (.tuple #[.slice none 0 0, .int .i64 5]) ∧ NoCyc g n ∧ Below w.heap.size w w') ∨ (∃ (b c k i : Nat) (q : Rule) (l : List Int), e = .returned (.tuple #[.slice (some ⟨b, 0, none⟩) l.length c, .int .i64 0]) ∧ CycF g n k i q l ∧ Own w' (fun _ => False) w.heap.size 3 (.slice (some ⟨b, 0, none⟩) l.length c) l ∧ Below w.heap.size w w')
set_option maxRecDepth 100000 in
set_option maxHeartbeats 4000000 in
theorem cyclic_any (g : Gram) (m n : Nat) (A : Option Addr) (c : Nat) (S : Nat → Prop) (w : World) (hgt : g.terms = (m : Int)) (hgn : g.nons = (n : Int)) (hck : checkI g = 0) (hlc : g.rules.length ≤ c) (hc : c ≤ 9223372036854775807) (hA : Els w S g.rules A) (hS : ∀ b, S b → b < w.heap.size) :
    Calls Try.prog 20 #[.agg #[.int .i64 g.terms, .int .i64 g.nons, .int .i64 g.start, .slice A g.rules.length c]] w (RetCyc g n w) := by
  obtain ⟨gt, gn, gs, rs⟩ := g
  dsimp only at *
  subst hgt; subst hgn
  have HA := Lib.hid hA
  have HS := Lib.hid hS
  have HC := Lib.hid hck
  have HG0 := Lib.hid (Blk'.new w 37 #[.int .i64 (m : Int), .int .i64 (n : Int), .int .i64 gs, .slice A rs.length c])
  have HB0 : Hid (Below w.heap.size w (w.alloc (.cells #[.int .i64 (m : Int), .int .i64 (n : Int), .int .i64 gs, .slice A rs.length c] 37))) := Lib.hid ((Below.refl _ _).alloc (Nat.le_refl _) _)
  clear hA hS hck
  have hnil : ∀ (w : World) (a : Option Addr) (l c : Nat), (binOp .eql 25 (.slice a l c) (.slice none 0 0)).run Try.prog w = .ok (.bool a.isNone) w := fun w a l c => Lib.run_eql_slice_nil w _ _ a l c _ _ Try.underlying25
  go_enter Try.func20, Try.ntmps20
  go_wp2_with fail
  refine (check_any ⟨(m : Int), (n : Int), gs, rs⟩ A c S _ hlc hc (HA.out.belowB HB0.out HS.out)).mono ?_
  rintro e w1 ⟨rfl, hb1⟩
  rw [HC.out]
  have HB1 := Lib.hid (bthen HB0.out hb1 HB0.out.size)
  have HG1 := Lib.hid (HG0.out.below hb1 (by simp))
  have a0 : w1.cell? ⟨w.heap.size, 0, none⟩ = some (.int .i64 (m : Int)) := HG1.out.cell 0
  have a1 : w1.cell? ⟨w.heap.size, 1, none⟩ = some (.int .i64 (n : Int)) := HG1.out.cell 1
  have a2 : w1.cell? ⟨w.heap.size, 2, none⟩ = some (.int .i64 gs) := HG1.out.cell 2
  have a3 : w1.cell? ⟨w.heap.size, 3, none⟩ = some (.slice A rs.length c) := HG1.out.cell 3
  have zG : w.heap.size < w1.heap.size := HG1.out.lt
  clear hb1
  go_wp2_with fail
  refine (find_any ⟨(m : Int), (n : Int), gs, rs⟩ m n A c S w1 rfl rfl HC.out hlc hc (HA.out.belowB HB1.out HS.out) (fun b hb => by have := HS.out b hb; have := HB1.out.size; omega)).mono ?_
  rintro e w2 hret
  rcases hret with ⟨rfl, hno, hb2⟩ | ⟨v, k, i, q, l, rfl, hcf, hown, hb2⟩
  · have HB2 := Lib.hid (bthen HB1.out hb2 HB1.out.size)
    have HN := Lib.hid hno
    clear hno hb2
    go_wp2
    go_ret2
    exact .inl ⟨rfl, HN.out, HB2.out⟩
  · have HB2 := Lib.hid (bthen HB1.out hb2 HB1.out.size)
    have HF := Lib.hid hcf
    obtain ⟨Al, cl, rfl, hcl1, hcl2, hcl3⟩ := hown.form
    obtain ⟨b, hb⟩ : ∃ b, Al = some ⟨b, 0, none⟩ := by
      rcases hcl3 with h | ⟨b, h, _⟩
      · have := hcf.way.len; rw [h] at this; simp at this
      · exact ⟨b, h⟩
    subst hb
    have HO := Lib.hid hown
    clear hcf hown hb2 hcl3
    go_wp2
    go_ret2
    exact .inr ⟨b, cl, k, i, q, l, rfl, HF.out, HO.out.base HB1.out.size, HB2.out⟩
end Go.Proofs.Ytpcjfgikicpioaa
