/- Contracts: prec.Climb's deferred closure: of a frame that panics with reject{}, of a frame that returns. -/
import Derived.Test.YtpcjfgikicpioaaQMake
import Derived.Test.YtpcjfgikicpioaaQp1
import Derived.Recover
import Derived.Defers
import Derived.Laws.EntriesVeiled
namespace Go.Proofs.Ytpcjfgikicpioaa
open Go.RowKit
set_option linter.unusedVariables false

theorem assert_nil (W : World) : (Instr.typeAssert Value.nilIface 20 75 true).run Try.prog W = .ok (.tuple #[.agg #[], .bool false]) W := by kernel_rfl
theorem assert_reject (W : World) : (Instr.typeAssert (Value.iface 75 (.agg #[])) 20 75 true).run Try.prog W = .ok (.tuple #[.agg #[], .bool true]) W := by kernel_rfl

set_option maxRecDepth 100000 in
theorem climbD_idle (p q r s : Addr) (w : World) :
    CallsD Try.prog 24 #[.pointer (some p), .pointer (some q), .pointer (some r), .pointer (some s)] .returning w fun e u' w' => e = .returned (.tuple #[]) ∧ u' = .returning ∧ w' = w.alloc (.cells #[] 75) := by
  have ha := assert_nil
  refine callsD_of_wpS Try.func24 rfl fun c₀ cs hu => ?_
  apply wpS_seq
  apply wpS_region
  simp [wpOpsS, go_sem, recoverD, hu, Try.ntmps24, Exit.thenS, ha]
  apply wpS_seq
  apply wpS_region
  simp [wpOpsS, go_sem, Exit.thenS]
  refine wpS_cond (t := false) (by simp [Act.eval, Array.replicate]) ?_
  simp only [Bool.false_eq_true, if_false]
  refine wpS_of_wp (wp_skip ?_)
  cases c₀
  simp_all [bodyPostS, results, Try.results24]

set_option maxRecDepth 100000 in
set_option maxHeartbeats 2000000 in
/-- Of a frame that panics with reject{}: the panic is taken, and the named results are laid. C: the variable that holds the pointer to the climber K. -/
theorem climbD_reject (C T a e K : Nat) (at_ x y z u : Int) (v tv : Value) (older : List PanicEntry) (w : World)
    (hC : w.cell? ⟨C, 0, none⟩ = some (.pointer (some ⟨K, 0, none⟩))) (hK : w.cell? ⟨K, 6, none⟩ = some (.int .i64 at_))
    (hC0 : C < w.heap.size) (hK0 : K < w.heap.size) (hT0 : T < w.heap.size) (ha0 : a < w.heap.size) (he0 : e < w.heap.size)
    (n1 : ¬ T = a) (n2 : ¬ T = e) (n3 : ¬ a = e) (n4 : ¬ a = T) (n5 : ¬ e = T) (n6 : ¬ e = a) (hT : Blk' w T 28 #[.int .i64 x, .int .i64 y, tv]) (hA : Blk' w a 3 #[.int .i64 z]) (hE : Blk' w e 29 #[.int .i64 u]) :
    CallsD Try.prog 24 #[.pointer (some ⟨C, 0, none⟩), .pointer (some ⟨T, 0, none⟩), .pointer (some ⟨a, 0, none⟩), .pointer (some ⟨e, 0, none⟩)] (.panicking ({ v := .iface 75 (.agg #[]), recovered := false } :: older)) w fun e' u' w' => e' = .returned (.tuple #[]) ∧ u' = .panicking ({ v := .iface 75 (.agg #[]), recovered := true } :: older) ∧ w' = ((((((w.alloc (.cells #[] 75)).setCell ⟨T, 0, none⟩ (.int .i64 0)).setCell ⟨T, 1, none⟩ (.int .i64 0)).setCell ⟨T, 2, none⟩ (.slice none 0 0)).setCell ⟨a, 0, none⟩ (.int .i64 at_)).setCell ⟨e, 0, none⟩ (.int .i64 10)) := by
  have ha := assert_reject
  refine callsD_of_wpS Try.func24 rfl fun c₀ cs hu => ?_
  apply wpS_seq
  apply wpS_region
  simp [wpOpsS, go_sem, recoverD, hu, Try.ntmps24, Exit.thenS, ha, Array.replicate, List.replicate]
  apply wpS_seq
  apply wpS_region
  simp [wpOpsS, go_sem, Exit.thenS]
  refine wpS_cond (t := true) (by simp [Act.eval, Array.replicate]) ?_
  simp only [if_true]
  obtain ⟨w1, hw1⟩ : ∃ w1 : World, w1 = w.alloc (.cells #[] 75) := ⟨_, rfl⟩
  have hb : Below w.heap.size w w1 := by rw [hw1]; exact (Below.refl _ _).alloc (Nat.le_refl _) _
  have k0 := (hb.cell (p := ⟨C, 0, none⟩) hC0).trans hC
  have k1 := (hb.cell (p := ⟨K, 6, none⟩) hK0).trans hK
  have hT1 := hT.below hb hT.lt
  have hA1 := hA.below hb hA.lt
  have hE1 := hE.below hb hE.lt
  have t0 : w1.cell? ⟨T, 0, none⟩ = some (.int .i64 x) := hT1.cell 0
  have t1 : w1.cell? ⟨T, 1, none⟩ = some (.int .i64 y) := hT1.cell 1
  have t2 : w1.cell? ⟨T, 2, none⟩ = some tv := hT1.cell 2
  have a0 : w1.cell? ⟨a, 0, none⟩ = some (.int .i64 z) := hA1.cell 0
  have e0 : w1.cell? ⟨e, 0, none⟩ = some (.int .i64 u) := hE1.cell 0
  have f0 := hT1.frozen 0
  have f1 := hT1.frozen 1
  have f2 := hT1.frozen 2
  have fa := hA1.frozen 0
  have fe := hE1.frozen 0
  have z1 := hb.size
  have zT1 := hT1.lt
  have zA1 := hA1.lt
  have zE1 := hE1.lt
  have zC1 : C < w1.heap.size := by omega
  have zK1 : K < w1.heap.size := by omega
  rw [← hw1]
  have HW := Lib.hid hw1
  clear hw1 hb hT1 hA1 hE1 hT hA hE hC hK
  refine wpS_of_wp ?_
  go_wp2_with fail
  have hw := HW.out
  cases c₀
  simp_all [bodyPostS, results, Try.results24]
end Go.Proofs.Ytpcjfgikicpioaa
