/- Contract: the number of a symbol in the normal form. -/
import Derived.Test.YtecofoilghdedaaDoorQp1
import Derived.Deep.DeepCutAuto
import Derived.Deep.QuietTactic
import Derived.BigQuiet
import Derived.IntWalk
namespace Go.Proofs.YtecofoilghdedaaDoor
open Go.RowKit
set_option linter.unusedVariables false

theorem infoPart : (Tryd.prog.info? 169).map (fun i => (i.zero, i.size, i.bytes)) = some (some (.agg #[.int .i64 0, .int .i64 0, .slice none 0 0, .bool false]), 4, 48) := by kernel_rfl
theorem elemPart : ElemT Tryd.prog Part 107 169 48 := by obtain ⟨i, h1, h2, h3, h4⟩ := info_parts infoPart; exact ⟨i, _, Tryd.underlying107, h1, h2, h3, h4, rfl⟩

set_option maxRecDepth 100000 in
set_option maxHeartbeats 1000000 in
theorem symbol_any (P leaf : Nat) (s : Sym) (w : World) (hP : P < w.heap.size) (hl : w.cell? ⟨P, 5, none⟩ = some (.int .i64 (leaf : Int))) (h1 : leaf ≤ 1000) (h2 : 0 ≤ s.n ∧ s.n ≤ 1000) :
    Calls Tryd.prog 146 #[.pointer (some ⟨P, 0, none⟩), .agg #[.bool s.term, .int .i64 s.n]] w fun e w' => e = .returned (.int .i64 (symN leaf s)) ∧ Below w.heap.size w w' := by
  obtain ⟨t, n⟩ := s
  dsimp only at *
  obtain ⟨w1, hw1⟩ : ∃ w1 : World, w1 = w.alloc (.cells #[.bool t, .int .i64 n] 49) := ⟨_, rfl⟩
  have HW1 := Lib.hid hw1
  have hb1 : Below w.heap.size w w1 := by rw [hw1]; exact (Below.refl _ _).alloc (Nat.le_refl _) _
  have hX : Blk' w1 w.heap.size 49 #[.bool t, .int .i64 n] := by rw [hw1]; exact Blk'.new _ _ _
  have c0 : w1.cell? ⟨w.heap.size, 0, none⟩ = some (.bool t) := hX.cell 0
  have c1 : w1.cell? ⟨w.heap.size, 1, none⟩ = some (.int .i64 n) := hX.cell 1
  have p5 : w1.cell? ⟨P, 5, none⟩ = some (.int .i64 (leaf : Int)) := (hb1.cell (p := ⟨P, 5, none⟩) hP).trans hl
  have zX := hX.lt
  have zP : P < w1.heap.size := Nat.lt_of_lt_of_le hP hb1.size
  have HB1 := Lib.hid hb1
  have hwr : IntKind.i64.wrap ((leaf : Int) + n) = (leaf : Int) + n := IntWalk.i64_in _ (by omega)
  clear hw1 hb1 hX hl hP
  go_enter Tryd.func146, Tryd.ntmps146
  go_upto_region 1 with (fail)
  rw [← HW1.out]
  cases t
  case false =>
    go_wp2
    go_ret
    exact ⟨rfl, HB1.out⟩
  case true =>
    go_upto_region 2 with (fail)
    go_quiet (fail)
    go_wp2
    go_ret
    exact ⟨by simp [symN], bdrewN HB1.out⟩
end Go.Proofs.YtecofoilghdedaaDoor
