/- Contracts: leftrec.recursive; the closure that asks it of a nonterminal's rules. -/
import Derived.Test.YtjdojogjogenkaaDoorQLeftP
import Derived.Test.YtjdojogjogenkaaDoorQw1
import Derived.Test.YtjdojogjogenkaaDoorQp1
import Derived.Deep.QuietTactic
import Derived.BigQuiet
namespace Go.Proofs.YtjdojogjogenkaaDoor
open Go.RowKit
set_option linter.unusedVariables false
theorem run_eq_sym (W : World) (a c : Bool) (b d : Int) : (binOp .eql 40 (.agg #[.bool a, .int .i64 b]) (.agg #[.bool c, .int .i64 d])).run Tryd.prog W = .ok (.bool (a == c && b == d)) W := by
 by_cases h1 : (a == c) = true
 ·by_cases h2 : (b == d) = true
  ·go_simp
  ·go_simp
 ·go_simp
set_option maxRecDepth 100000 in
set_option maxHeartbeats 2000000 in
theorem recursive_any (q : Rule) (A : Option Addr) (c : Nat) (S : Nat → Prop) (w : World) (hlc : q.right.length ≤ c) (hc : c ≤ 9223372036854775807) (hA : Els w S q.right A) :
  Calls Tryd.prog 75 #[.agg #[.int .i64 q.left, .slice A q.right.length c]] w fun e w' => e = .returned (.bool (recB q)) ∧ Below w.heap.size w w' := by
 obtain ⟨ql, qr⟩ := q
 dsimp only at *
 obtain ⟨w1, hw1⟩ : ∃ w1 : World, w1 = w.alloc (.cells #[.int .i64 ql, .slice A qr.length c] 60) := ⟨_, rfl⟩
 have HW1 := Lib.hid hw1
 have hb1 : Below w.heap.size w w1 := by rw [hw1]; exact (Below.refl _ _).alloc (Nat.le_refl _) _
 have hx1 : Blk' w1 w.heap.size 60 #[.int .i64 ql, .slice A qr.length c] := by rw [hw1]; exact Blk'.new w _ _
 have HB1 := Lib.hid hb1
 have HA := Lib.hid (hA.below hb1)
 have x0 : w1.cell? ⟨w.heap.size, 0, none⟩ = some (.int .i64 ql) := hx1.cell 0
 have x1 : w1.cell? ⟨w.heap.size, 1, none⟩ = some (.slice A qr.length c) := hx1.cell 1
 have zX : w.heap.size < w1.heap.size := hx1.lt
 clear hw1 hb1 hx1 hA
 go_enter Tryd.func75, Tryd.ntmps75
 go_upto_region 1 with (fail)
 rw [← HW1.out]
 cases hqr : qr with
 | cons s0 r0 =>
  have hne : 0 < qr.length := by rw [hqr]; simp
  clear hqr
  obtain ⟨s, hs⟩ := get_some hne
  obtain ⟨bq, oq, rfl, _, zq, hi, y0, y1⟩ := HA.out.sym hs
  simp only [Nat.zero_mul, Nat.mul_zero, Nat.add_zero] at y0 y1
  obtain ⟨st, sn⟩ := s
  dsimp only at y0 y1 hi
  have HE := Lib.hid (show recB ⟨ql, qr⟩ = (!st && sn == ql) by
   unfold recB
   rw [hs]
   cases st <;> simp [BEq.beq])
  have d0 : decide ((qr.length : Int) > 0) = true := decide_eq_true (by omega)
  have l0 : (0 : Int) < (qr.length : Int) := by omega
  have QE : ∀ W, (binOp .eql 40 (.agg #[.bool st, .int .i64 sn]) (.agg #[.bool false, .int .i64 ql])).run Tryd.prog W = .ok (.bool (!st && sn == ql)) W := fun W => by
   rw [run_eq_sym]
   cases st <;> simp
  clear hs hi
  refine wp_region_noPanic ?_
  refine wp_region_held_drew (S := (fun w' => w'.cell? ⟨w.heap.size, 0, none⟩ = some (.int .i64 ql) ∧ w'.cell? ⟨w.heap.size, 1, none⟩ = some (.slice (some ⟨bq, oq, none⟩) qr.length c) ∧ w'.cell? ⟨bq, oq, none⟩ = some (.bool st) ∧ w'.cell? ⟨bq, oq + 1, none⟩ = some (.int .i64 sn))) (by kernel_rfl) ?hf (fun hHeld => ?bf)
  case hf => ((try dsimp only); go_keep)
  refine take_run (i := 0) (v := ?vf0) rfl (by kernel_rfl) (by kernel_rfl) (by kernel_rfl) (fun _ _ _ h => h) (by rfl) ?yf0 (by assumption) ?rf0
  case yf0 => (intro w hSw; (try dsimp only at hSw); go_simp; try with_reducible rfl)
  try simp only [Act.put, List.setIfInBounds_toArray, List.set_cons_zero, List.set_cons_succ]
  refine take_run (i := 1) (v := ?vf1) rfl (by kernel_rfl) (by kernel_rfl) (by kernel_rfl) (fun _ _ _ h => h) (by rfl) ?yf1 (by assumption) ?rf1
  case yf1 => (intro w hSw; (try dsimp only at hSw); go_simp; try with_reducible rfl)
  try simp only [Act.put, List.setIfInBounds_toArray, List.set_cons_zero, List.set_cons_succ]
  refine take_run (i := 2) (v := ?vf2) rfl (by kernel_rfl) (by kernel_rfl) (by kernel_rfl) (fun _ _ _ h => h) (by rfl) ?yf2 (by assumption) ?rf2
  case yf2 => (intro w hSw; (try dsimp only at hSw); go_simp; try with_reducible rfl)
  try simp only [Act.put, List.setIfInBounds_toArray, List.set_cons_zero, List.set_cons_succ]
  refine take_run (i := 3) (v := ?vf3) rfl (by kernel_rfl) (by kernel_rfl) (by kernel_rfl) (fun _ _ _ h => h) (by rfl) ?yf3 (by assumption) ?rf3
  case yf3 => (intro w hSw; (try dsimp only at hSw); go_simp; try with_reducible rfl)
  try simp only [Act.put, List.setIfInBounds_toArray, List.set_cons_zero, List.set_cons_succ]
  refine take_run (i := 4) (v := ?vf4) rfl (by kernel_rfl) (by kernel_rfl) (by kernel_rfl) (fun _ _ _ h => h) (by rfl) ?yf4 (by assumption) ?rf4
  case yf4 => (intro w hSw; (try dsimp only at hSw); go_simp; try with_reducible rfl)
  try simp only [Act.put, List.setIfInBounds_toArray, List.set_cons_zero, List.set_cons_succ]
  refine take_run (i := 5) (v := ?vf5) rfl (by kernel_rfl) (by kernel_rfl) (by kernel_rfl) (fun _ _ _ h => h) (by rfl) ?yf5 (by assumption) ?rf5
  case yf5 => (intro w hSw; (try dsimp only at hSw); go_simp; try with_reducible rfl)
  try simp only [Act.put, List.setIfInBounds_toArray, List.set_cons_zero, List.set_cons_succ]
  refine take_run (i := 6) (v := ?vf6) rfl (by kernel_rfl) (by kernel_rfl) (by kernel_rfl) (fun _ _ _ h => h) (by rfl) ?yf6 (by assumption) ?rf6
  case yf6 => (intro w hSw; (try dsimp only at hSw); go_simp; try with_reducible rfl)
  try simp only [Act.put, List.setIfInBounds_toArray, List.set_cons_zero, List.set_cons_succ]
  refine take_run (i := 7) (v := ?vf7) rfl (by kernel_rfl) (by kernel_rfl) (by kernel_rfl) (fun _ _ _ h => h) (by rfl) ?yf7 (by assumption) ?rf7
  case yf7 => (intro w hSw; (try dsimp only at hSw); go_simp; try with_reducible rfl)
  try simp only [Act.put, List.setIfInBounds_toArray, List.set_cons_zero, List.set_cons_succ]
  refine take_run (i := 8) (v := ?vf8) rfl (by kernel_rfl) (by kernel_rfl) (by kernel_rfl) (fun _ _ _ h => h) (by rfl) ?yf8 (by assumption) ?rf8
  case yf8 => (intro w hSw; (try dsimp only at hSw); go_simp; try with_reducible rfl)
  try simp only [Act.put, List.setIfInBounds_toArray, List.set_cons_zero, List.set_cons_succ]
  refine take_run (i := 9) (v := ?vf9) rfl (by kernel_rfl) (by kernel_rfl) (by kernel_rfl) (fun _ _ _ h => h) (by rfl) ?yf9 (by assumption) ?rf9
  case yf9 => (intro w hSw; (try dsimp only at hSw); go_simp; try with_reducible rfl)
  try simp only [Act.put, List.setIfInBounds_toArray, List.set_cons_zero, List.set_cons_succ]
  refine take_run (i := 10) (v := ?vf10) rfl (by kernel_rfl) (by kernel_rfl) (by kernel_rfl) (fun _ _ _ h => h) (by rfl) ?yf10 (by assumption) ?rf10
  case yf10 => (intro w hSw; (try dsimp only at hSw); go_simp; try with_reducible rfl)
  try simp only [Act.put, List.setIfInBounds_toArray, List.set_cons_zero, List.set_cons_succ]
  refine take_call (i := 11) rfl (by kernel_rfl) (by rfl) (fun Kq hK => ?_)
  go_simp
  go_at_call 77
  refine (n_any ql _).mono ?_
  rintro e w2 ⟨rfl, hb2⟩
  have HB2 := Lib.hid (bundrew hb2)
  have n0 := (HB2.out.cell (p := ⟨w.heap.size, 0, none⟩) zX).trans x0
  have n1 := (HB2.out.cell (p := ⟨w.heap.size, 1, none⟩) zX).trans x1
  have n2 := (HB2.out.cell (p := ⟨bq, oq, none⟩) zq).trans y0
  have n3 := (HB2.out.cell (p := ⟨bq, oq + 1, none⟩) zq).trans y1
  clear hb2
  refine hK.out _ _ ?hf11 (fun hHeld => ?rf11)
  case hf11 => ((try dsimp only); go_keep)
  clear hK Kq
  try simp only [Act.put, List.setIfInBounds_toArray, List.set_cons_zero, List.set_cons_succ]
  refine take_run (i := 12) (v := .bool (!st && sn == ql)) rfl (by kernel_rfl) (by kernel_rfl) (by kernel_rfl) (fun _ _ _ h => h) (by rfl) ?yf12 (by assumption) ?rf12
  case yf12 => (intro w hSw; (try dsimp only at hSw); try go_simp; first | done | omega | (simp [QE]; done) | trace_state)
  try simp only [Act.put, List.setIfInBounds_toArray, List.set_cons_zero, List.set_cons_succ]
  refine take_run (i := 13) (v := ?vf13) rfl (by kernel_rfl) (by kernel_rfl) (by kernel_rfl) (fun _ _ _ h => h) (by rfl) ?yf13 (by assumption) ?rf13
  case yf13 => (intro w hSw; (try dsimp only at hSw); go_simp; try with_reducible rfl)
  try simp only [Act.put, List.setIfInBounds_toArray, List.set_cons_zero, List.set_cons_succ]
  refine take_run (i := 14) (v := ?vf14) rfl (by kernel_rfl) (by kernel_rfl) (by kernel_rfl) (fun _ _ _ h => h) (by rfl) ?yf14 (by assumption) ?rf14
  case yf14 => (intro w hSw; (try dsimp only at hSw); go_simp; try with_reducible rfl)
  try simp only [Act.put, List.setIfInBounds_toArray, List.set_cons_zero, List.set_cons_succ]
  refine wpAnyH_done (by kernel_rfl) ?_ _
  refine NoPanic.normal ?_
  go_wp2
  go_ret
  exact ⟨ret_bool HE.out.symm, bthen HB1.out HB2.out HB1.out.size⟩
 | nil =>
  subst hqr
  have HE := Lib.hid (show recB ⟨ql, []⟩ = false by simp [recB])
  replace x1 : w1.cell? ⟨w.heap.size, 1, none⟩ = some (.slice A 0 c) := x1
  refine wp_region_noPanic ?_
  refine wp_region_held_drew (S := (fun w' => w'.cell? ⟨w.heap.size, 0, none⟩ = some (.int .i64 ql) ∧ w'.cell? ⟨w.heap.size, 1, none⟩ = some (.slice A 0 c))) (by kernel_rfl) ?he (fun hHeld => ?be)
  case he => ((try dsimp only); go_keep)
  refine take_run (i := 0) (v := ?ve0) rfl (by kernel_rfl) (by kernel_rfl) (by kernel_rfl) (fun _ _ _ h => h) (by rfl) ?ye0 (by assumption) ?re0
  case ye0 => (intro w hSw; (try dsimp only at hSw); go_simp; try with_reducible rfl)
  try simp only [Act.put, List.setIfInBounds_toArray, List.set_cons_zero, List.set_cons_succ]
  refine take_run (i := 1) (v := ?ve1) rfl (by kernel_rfl) (by kernel_rfl) (by kernel_rfl) (fun _ _ _ h => h) (by rfl) ?ye1 (by assumption) ?re1
  case ye1 => (intro w hSw; (try dsimp only at hSw); go_simp; try with_reducible rfl)
  try simp only [Act.put, List.setIfInBounds_toArray, List.set_cons_zero, List.set_cons_succ]
  refine take_run (i := 2) (v := ?ve2) rfl (by kernel_rfl) (by kernel_rfl) (by kernel_rfl) (fun _ _ _ h => h) (by rfl) ?ye2 (by assumption) ?re2
  case ye2 => (intro w hSw; (try dsimp only at hSw); go_simp; try with_reducible rfl)
  try simp only [Act.put, List.setIfInBounds_toArray, List.set_cons_zero, List.set_cons_succ]
  refine take_run (i := 3) (v := ?ve3) rfl (by kernel_rfl) (by kernel_rfl) (by kernel_rfl) (fun _ _ _ h => h) (by rfl) ?ye3 (by assumption) ?re3
  case ye3 => (intro w hSw; (try dsimp only at hSw); go_simp; try with_reducible rfl)
  try simp only [Act.put, List.setIfInBounds_toArray, List.set_cons_zero, List.set_cons_succ]
  refine take_run (i := 4) (v := ?ve4) rfl (by kernel_rfl) (by kernel_rfl) (by kernel_rfl) (fun _ _ _ h => h) (by rfl) ?ye4 (by assumption) ?re4
  case ye4 => (intro w hSw; (try dsimp only at hSw); go_simp; try with_reducible rfl)
  try simp only [Act.put, List.setIfInBounds_toArray, List.set_cons_zero, List.set_cons_succ]
  refine take_bar (i := 5) rfl (by kernel_rfl) (by kernel_rfl) (by kernel_rfl) (fun _ _ _ h => h) (by rfl) (by assumption) ?_
  try simp only [Act.put, List.setIfInBounds_toArray, List.set_cons_zero, List.set_cons_succ]
  refine take_bar (i := 6) rfl (by kernel_rfl) (by kernel_rfl) (by kernel_rfl) (fun _ _ _ h => h) (by rfl) (by assumption) ?_
  try simp only [Act.put, List.setIfInBounds_toArray, List.set_cons_zero, List.set_cons_succ]
  refine take_bar (i := 7) rfl (by kernel_rfl) (by kernel_rfl) (by kernel_rfl) (fun _ _ _ h => h) (by rfl) (by assumption) ?_
  try simp only [Act.put, List.setIfInBounds_toArray, List.set_cons_zero, List.set_cons_succ]
  refine take_bar (i := 8) rfl (by kernel_rfl) (by kernel_rfl) (by kernel_rfl) (fun _ _ _ h => h) (by rfl) (by assumption) ?_
  try simp only [Act.put, List.setIfInBounds_toArray, List.set_cons_zero, List.set_cons_succ]
  refine take_bar (i := 9) rfl (by kernel_rfl) (by kernel_rfl) (by kernel_rfl) (fun _ _ _ h => h) (by rfl) (by assumption) ?_
  try simp only [Act.put, List.setIfInBounds_toArray, List.set_cons_zero, List.set_cons_succ]
  refine take_bar (i := 10) rfl (by kernel_rfl) (by kernel_rfl) (by kernel_rfl) (fun _ _ _ h => h) (by rfl) (by assumption) ?_
  try simp only [Act.put, List.setIfInBounds_toArray, List.set_cons_zero, List.set_cons_succ]
  refine take_bar (i := 11) rfl (by kernel_rfl) (by kernel_rfl) (by kernel_rfl) (fun _ _ _ h => h) (by rfl) (by assumption) ?_
  try simp only [Act.put, List.setIfInBounds_toArray, List.set_cons_zero, List.set_cons_succ]
  refine take_bar (i := 12) rfl (by kernel_rfl) (by kernel_rfl) (by kernel_rfl) (fun _ _ _ h => h) (by rfl) (by assumption) ?_
  try simp only [Act.put, List.setIfInBounds_toArray, List.set_cons_zero, List.set_cons_succ]
  refine take_run (i := 13) (v := ?ve13) rfl (by kernel_rfl) (by kernel_rfl) (by kernel_rfl) (fun _ _ _ h => h) (by rfl) ?ye13 (by assumption) ?re13
  case ye13 => (intro w hSw; (try dsimp only at hSw); go_simp; try with_reducible rfl)
  try simp only [Act.put, List.setIfInBounds_toArray, List.set_cons_zero, List.set_cons_succ]
  refine take_run (i := 14) (v := ?ve14) rfl (by kernel_rfl) (by kernel_rfl) (by kernel_rfl) (fun _ _ _ h => h) (by rfl) ?ye14 (by assumption) ?re14
  case ye14 => (intro w hSw; (try dsimp only at hSw); go_simp; try with_reducible rfl)
  try simp only [Act.put, List.setIfInBounds_toArray, List.set_cons_zero, List.set_cons_succ]
  refine wpAnyH_done (by kernel_rfl) ?_ _
  refine NoPanic.normal ?_
  go_wp2
  go_ret
  exact ⟨ret_bool HE.out.symm, bdrewN HB1.out⟩
set_option maxRecDepth 100000 in
set_option maxHeartbeats 2000000 in
theorem leftC_any (q : Rule) (k : Int) (b : Nat) (A : Option Addr) (c : Nat) (S : Nat → Prop) (w : World) (hk : w.cell? ⟨b, 0, none⟩ = some (.int .i64 k)) (hlc : q.right.length ≤ c) (hc : c ≤ 9223372036854775807) (hA : Els w S q.right A) :
  Calls Tryd.prog 74 #[.agg #[.int .i64 q.left, .slice A q.right.length c], .pointer (some ⟨b, 0, none⟩)] w fun e w' => e = .returned (.bool (decide (q.left = k) && recB q)) ∧ Below w.heap.size w w' := by
 obtain ⟨w1, hw1⟩ : ∃ w1 : World, w1 = w.alloc (.cells #[.int .i64 q.left, .slice A q.right.length c] 60) := ⟨_, rfl⟩
 have HW1 := Lib.hid hw1
 have hb1 : Below w.heap.size w w1 := by rw [hw1]; exact (Below.refl _ _).alloc (Nat.le_refl _) _
 have hx1 : Blk' w1 w.heap.size 60 #[.int .i64 q.left, .slice A q.right.length c] := by rw [hw1]; exact Blk'.new w _ _
 have zb : b < w.heap.size := World.block_lt_of_cell? w _ hk
 have HB1 := Lib.hid hb1
 have HA := Lib.hid (hA.below hb1)
 have k0 := (hb1.cell (p := ⟨b, 0, none⟩) zb).trans hk
 have zb1 : b < w1.heap.size := Nat.lt_of_lt_of_le zb hb1.size
 have x0 : w1.cell? ⟨w.heap.size, 0, none⟩ = some (.int .i64 q.left) := hx1.cell 0
 have x1 : w1.cell? ⟨w.heap.size, 1, none⟩ = some (.slice A q.right.length c) := hx1.cell 1
 have zX : w.heap.size < w1.heap.size := hx1.lt
 clear hw1 hb1 hx1 hA hk zb
 go_enter Tryd.func74, Tryd.ntmps74
 go_upto_region 1 with (fail)
 rw [← HW1.out]
 by_cases he : q.left = k
 ·have h0 : (q.left == k) = true := by simp [he]
  have HE := Lib.hid (show (decide (q.left = k) && recB q) = recB q by simp [he])
  clear he
  go_wp2_with fail
  refine (recursive_any q A c S w1 hlc hc HA.out).mono ?_
  rintro e w2 ⟨rfl, hb2⟩
  have HB2 := Lib.hid (bthen HB1.out hb2 HB1.out.size)
  clear hb2
  go_wp2
  go_ret
  exact ⟨ret_bool HE.out.symm, HB2.out⟩
 ·have h0 : (q.left == k) = false := by simp [he]
  have HE := Lib.hid (show (decide (q.left = k) && recB q) = false by simp [he])
  clear he
  go_wp2
  go_ret
  exact ⟨ret_bool HE.out.symm, HB1.out⟩
theorem leftC_go : IsGo 74 := isGo_of Tryd.func74 (by kernel_rfl) (by kernel_rfl)
end Go.Proofs.YtjdojogjogenkaaDoor
