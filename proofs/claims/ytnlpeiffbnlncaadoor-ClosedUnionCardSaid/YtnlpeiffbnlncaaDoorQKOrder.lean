/- Contract: core.order; it is a strict weak order. -/
import Derived.Test.YtnlpeiffbnlncaaDoorQGrB
import Derived.Test.YtnlpeiffbnlncaaDoorQp1
import Derived.Test.YtnlpeiffbnlncaaDoorQp2
import Derived.Deep.Cut
namespace Go.Proofs.YtnlpeiffbnlncaaDoor
open Go.RowKit
set_option linter.unusedVariables false

def keyCmp (a b : NKey) : Int := orI [cmpI (a.fr : Int) (b.fr : Int), cmpI (a.to : Int) (b.to : Int), symCmp a.sym b.sym]
theorem keyCmp_lt (a b : NKey) : keyCmp a b < 0 ↔ (a.fr < b.fr ∨ a.fr = b.fr ∧ (a.to < b.to ∨ a.to = b.to ∧ symCmp a.sym b.sym < 0)) := by
  unfold keyCmp
  simp only [orI, cmpI]
  repeat' split
  all_goals omega
theorem symCmp_lt (a b : Sym) : symCmp a b < 0 ↔ (a.term = true ∧ b.term = false ∨ a.term = b.term ∧ a.n < b.n) := by
  obtain ⟨t, n⟩ := a
  obtain ⟨t', n'⟩ := b
  cases t <;> cases t' <;> simp [symCmp, cmpI] <;> (repeat' split) <;> (try simp) <;> omega

set_option maxRecDepth 100000 in
set_option maxHeartbeats 4000000 in
theorem korder_Gr (a b : NKey) (w : World) :
    Calls Tryd.prog 101 #[.agg #[.bool a.sym.term, .int .i64 a.sym.n, .int .i64 (a.fr : Int), .int .i64 (a.to : Int)], .agg #[.bool b.sym.term, .int .i64 b.sym.n, .int .i64 (b.fr : Int), .int .i64 (b.to : Int)]] w fun e w' => e = .returned (.int .i64 (keyCmp a b)) ∧ Gr w w' := by
  obtain ⟨w1, hw1⟩ : ∃ w1 : World, w1 = (w.alloc (.cells #[.bool a.sym.term, .int .i64 a.sym.n, .int .i64 (a.fr : Int), .int .i64 (a.to : Int)] 160)).alloc (.cells #[.bool b.sym.term, .int .i64 b.sym.n, .int .i64 (b.fr : Int), .int .i64 (b.to : Int)] 160) := ⟨_, rfl⟩
  have HW1 := Lib.hid hw1
  have HA : Hid (Blk' w1 w.heap.size 160 #[.bool a.sym.term, .int .i64 a.sym.n, .int .i64 (a.fr : Int), .int .i64 (a.to : Int)]) := Lib.hid (by rw [hw1]; exact (Blk'.new _ _ _).alloc _)
  have HB : Hid (Blk' w1 (w.heap.size + 1) 160 #[.bool b.sym.term, .int .i64 b.sym.n, .int .i64 (b.fr : Int), .int .i64 (b.to : Int)]) := Lib.hid (by rw [hw1]; exact Blk'.new' _ _ _ (by simp))
  have HG1 : Hid (Gr w w1) := Lib.hid (by rw [hw1]; exact ((Gr.refl _).alloc _).alloc _)
  clear hw1
  go_enter Tryd.func101, Tryd.ntmps101
  go_upto_region 1 with (fail)
  rw [← HW1.out]
  have a0 : w1.cell? ⟨w.heap.size, 0, none⟩ = some (.bool a.sym.term) := HA.out.cell 0
  have a1 : w1.cell? ⟨w.heap.size, 1, none⟩ = some (.int .i64 a.sym.n) := HA.out.cell 1
  have a2 : w1.cell? ⟨w.heap.size, 2, none⟩ = some (.int .i64 (a.fr : Int)) := HA.out.cell 2
  have a3 : w1.cell? ⟨w.heap.size, 3, none⟩ = some (.int .i64 (a.to : Int)) := HA.out.cell 3
  have b0 : w1.cell? ⟨w.heap.size + 1, 0, none⟩ = some (.bool b.sym.term) := HB.out.cell 0
  have b1 : w1.cell? ⟨w.heap.size + 1, 1, none⟩ = some (.int .i64 b.sym.n) := HB.out.cell 1
  have b2 : w1.cell? ⟨w.heap.size + 1, 2, none⟩ = some (.int .i64 (b.fr : Int)) := HB.out.cell 2
  have b3 : w1.cell? ⟨w.heap.size + 1, 3, none⟩ = some (.int .i64 (b.to : Int)) := HB.out.cell 3
  have zA : w.heap.size < w1.heap.size := HA.out.lt
  have zB : w.heap.size + 1 < w1.heap.size := HB.out.lt
  refine wp_region_noPanic ?_
  refine wp_region_held_drew (S := (fun w' => w'.cell? ⟨w.heap.size, 0, none⟩ = some (.bool a.sym.term) ∧ w'.cell? ⟨w.heap.size, 1, none⟩ = some (.int .i64 a.sym.n) ∧ w'.cell? ⟨w.heap.size, 2, none⟩ = some (.int .i64 (a.fr : Int)) ∧ w'.cell? ⟨w.heap.size, 3, none⟩ = some (.int .i64 (a.to : Int)) ∧ w'.cell? ⟨w.heap.size + 1, 0, none⟩ = some (.bool b.sym.term) ∧ w'.cell? ⟨w.heap.size + 1, 1, none⟩ = some (.int .i64 b.sym.n) ∧ w'.cell? ⟨w.heap.size + 1, 2, none⟩ = some (.int .i64 (b.fr : Int)) ∧ w'.cell? ⟨w.heap.size + 1, 3, none⟩ = some (.int .i64 (b.to : Int)))) (by kernel_rfl) ?ha (fun hHeld => ?ba)
  case ha => ((try dsimp only); go_keep)
  refine tk 0 rfl (by intro w h; (try dsimp only at h); go_simp; try with_reducible rfl) ?_
  try simp only [Act.put, sA, sB, sC]
  refine tk 1 rfl (by intro w h; (try dsimp only at h); go_simp; try with_reducible rfl) ?_
  try simp only [Act.put, sA, sB, sC]
  refine tk 2 rfl (by intro w h; (try dsimp only at h); go_simp; try with_reducible rfl) ?_
  try simp only [Act.put, sA, sB, sC]
  refine tk 3 rfl (by intro w h; (try dsimp only at h); go_simp; try with_reducible rfl) ?_
  try simp only [Act.put, sA, sB, sC]
  refine tk 5 rfl (by intro w h; (try dsimp only at h); go_simp; try with_reducible rfl) ?_
  try simp only [Act.put, sA, sB, sC]
  refine tk 6 rfl (by intro w h; (try dsimp only at h); go_simp; try with_reducible rfl) ?_
  try simp only [Act.put, sA, sB, sC]
  refine tk 7 rfl (by intro w h; (try dsimp only at h); go_simp; try with_reducible rfl) ?_
  try simp only [Act.put, sA, sB, sC]
  refine tk 8 rfl (by intro w h; (try dsimp only at h); go_simp; try with_reducible rfl) ?_
  try simp only [Act.put, sA, sB, sC]
  refine tk 10 rfl (by intro w h; (try dsimp only at h); go_simp; try with_reducible rfl) ?_
  try simp only [Act.put, sA, sB, sC]
  refine tk 11 rfl (by intro w h; (try dsimp only at h); go_simp; try with_reducible rfl) ?_
  try simp only [Act.put, sA, sB, sC]
  refine tk 12 rfl (by intro w h; (try dsimp only at h); go_simp; try with_reducible rfl) ?_
  try simp only [Act.put, sA, sB, sC]
  refine tk 13 rfl (by intro w h; (try dsimp only at h); go_simp; try with_reducible rfl) ?_
  try simp only [Act.put, sA, sB, sC]
  refine take_call (i := 4) rfl (by kernel_rfl) (by rfl) (fun Kq hK => ?_)
  go_simp
  go_at_call 105
  refine (cmpInt_any _ _ w1.drew).mono ?_
  rintro e w' ⟨rfl, rfl⟩
  refine hK.out _ _ ?ha4 (fun hHeld => ?ra4)
  case ha4 => ((try dsimp only); go_keep)
  clear hK Kq
  try simp only [Act.put, sA, sB, sC]
  refine take_call (i := 9) rfl (by kernel_rfl) (by rfl) (fun Kq hK => ?_)
  go_simp
  go_at_call 105
  refine (cmpInt_any _ _ w1.drew).mono ?_
  rintro e w' ⟨rfl, rfl⟩
  refine hK.out _ _ ?ha9 (fun hHeld => ?ra9)
  case ha9 => ((try dsimp only); go_keep)
  clear hK Kq
  try simp only [Act.put, sA, sB, sC]
  refine take_call (i := 14) rfl (by kernel_rfl) (by rfl) (fun Kq hK => ?_)
  go_simp
  go_at_call 110
  refine (order_Gr a.sym.term b.sym.term a.sym.n b.sym.n w1.drew).mono ?_
  rintro e w2 ⟨rfl, hg2⟩
  have hb2 : Below w1.heap.size w1 w2 := (Gr.undrew hg2).below
  have HG2 : Hid (Gr w w2) := Lib.hid (HG1.out.trans (Gr.undrew hg2))
  have a0x : w2.cell? ⟨w.heap.size, 0, none⟩ = some (.bool a.sym.term) := (hb2.cell (p := ⟨w.heap.size, 0, none⟩) zA).trans a0
  have a1x : w2.cell? ⟨w.heap.size, 1, none⟩ = some (.int .i64 a.sym.n) := (hb2.cell (p := ⟨w.heap.size, 1, none⟩) zA).trans a1
  have a2x : w2.cell? ⟨w.heap.size, 2, none⟩ = some (.int .i64 (a.fr : Int)) := (hb2.cell (p := ⟨w.heap.size, 2, none⟩) zA).trans a2
  have a3x : w2.cell? ⟨w.heap.size, 3, none⟩ = some (.int .i64 (a.to : Int)) := (hb2.cell (p := ⟨w.heap.size, 3, none⟩) zA).trans a3
  have b0x : w2.cell? ⟨w.heap.size + 1, 0, none⟩ = some (.bool b.sym.term) := (hb2.cell (p := ⟨w.heap.size + 1, 0, none⟩) zB).trans b0
  have b1x : w2.cell? ⟨w.heap.size + 1, 1, none⟩ = some (.int .i64 b.sym.n) := (hb2.cell (p := ⟨w.heap.size + 1, 1, none⟩) zB).trans b1
  have b2x : w2.cell? ⟨w.heap.size + 1, 2, none⟩ = some (.int .i64 (b.fr : Int)) := (hb2.cell (p := ⟨w.heap.size + 1, 2, none⟩) zB).trans b2
  have b3x : w2.cell? ⟨w.heap.size + 1, 3, none⟩ = some (.int .i64 (b.to : Int)) := (hb2.cell (p := ⟨w.heap.size + 1, 3, none⟩) zB).trans b3
  have zAx : w.heap.size < w2.heap.size := Nat.lt_of_lt_of_le zA hb2.size
  have zBx : w.heap.size + 1 < w2.heap.size := Nat.lt_of_lt_of_le zB hb2.size
  have hsy : symCmp ⟨a.sym.term, a.sym.n⟩ ⟨b.sym.term, b.sym.n⟩ = symCmp a.sym b.sym := rfl
  rw [hsy]
  clear hg2 hb2 hsy
  refine hK.out _ _ ?ha14 (fun hHeld => ?ra14)
  case ha14 => ((try dsimp only); go_keep)
  clear hK Kq
  try simp only [Act.put, sA, sB, sC]
  refine take_call (i := 15) rfl (by kernel_rfl) (by rfl) (fun Kq hK => ?_)
  go_simp
  obtain ⟨g3, hg3⟩ : ∃ g, g = w2.heap.size := ⟨_, rfl⟩
  obtain ⟨w3, hw3⟩ : ∃ w3 : World, w3 = w2.alloc (.cells #[.int .i64 (cmpI (a.fr : Int) (b.fr : Int)), .int .i64 (cmpI (a.to : Int) (b.to : Int)), .int .i64 (symCmp a.sym b.sym)] 3) := ⟨_, rfl⟩
  rw [← hw3, ← hg3]
  have hb3 : Below w2.heap.size w2 w3 := by rw [hw3]; exact (Below.refl _ _).alloc (Nat.le_refl _) _
  have HG3 : Hid (Gr w w3) := Lib.hid (by rw [hw3]; exact HG2.out.alloc _)
  have HE3 : Hid (Els w3 (fun _ => True) [cmpI (a.fr : Int) (b.fr : Int), cmpI (a.to : Int) (b.to : Int), symCmp a.sym b.sym] (some ⟨g3, 0, none⟩)) := Lib.hid (els_icells (t := 3) (by rw [hw3, hg3]; exact Blk'.new _ _ _) (by intro v hv; simp at hv; rcases hv with rfl | rfl | rfl; exact cmpI_range _ _; exact cmpI_range _ _; exact symCmp_range _ _) trivial)
  have a0y : w3.cell? ⟨w.heap.size, 0, none⟩ = some (.bool a.sym.term) := (hb3.cell (p := ⟨w.heap.size, 0, none⟩) zAx).trans a0x
  have a1y : w3.cell? ⟨w.heap.size, 1, none⟩ = some (.int .i64 a.sym.n) := (hb3.cell (p := ⟨w.heap.size, 1, none⟩) zAx).trans a1x
  have a2y : w3.cell? ⟨w.heap.size, 2, none⟩ = some (.int .i64 (a.fr : Int)) := (hb3.cell (p := ⟨w.heap.size, 2, none⟩) zAx).trans a2x
  have a3y : w3.cell? ⟨w.heap.size, 3, none⟩ = some (.int .i64 (a.to : Int)) := (hb3.cell (p := ⟨w.heap.size, 3, none⟩) zAx).trans a3x
  have b0y : w3.cell? ⟨w.heap.size + 1, 0, none⟩ = some (.bool b.sym.term) := (hb3.cell (p := ⟨w.heap.size + 1, 0, none⟩) zBx).trans b0x
  have b1y : w3.cell? ⟨w.heap.size + 1, 1, none⟩ = some (.int .i64 b.sym.n) := (hb3.cell (p := ⟨w.heap.size + 1, 1, none⟩) zBx).trans b1x
  have b2y : w3.cell? ⟨w.heap.size + 1, 2, none⟩ = some (.int .i64 (b.fr : Int)) := (hb3.cell (p := ⟨w.heap.size + 1, 2, none⟩) zBx).trans b2x
  have b3y : w3.cell? ⟨w.heap.size + 1, 3, none⟩ = some (.int .i64 (b.to : Int)) := (hb3.cell (p := ⟨w.heap.size + 1, 3, none⟩) zBx).trans b3x
  have zAy : w.heap.size < w3.heap.size := Nat.lt_of_lt_of_le zAx hb3.size
  have zBy : w.heap.size + 1 < w3.heap.size := Nat.lt_of_lt_of_le zBx hb3.size
  clear hw3 hg3 hb3
  refine hK.out _ _ ?ha15 (fun hHeld => ?ra15)
  case ha15 => ((try dsimp only); go_keep)
  clear hK Kq
  try simp only [Act.put, sA, sB, sC]
  refine take_call (i := 16) rfl (by kernel_rfl) (by rfl) (fun Kq hK => ?_)
  go_simp
  go_at_call 104
  refine (or_any (some ⟨g3, 0, none⟩) 3 [cmpI (a.fr : Int) (b.fr : Int), cmpI (a.to : Int) (b.to : Int), symCmp a.sym b.sym] (fun _ => True) w3 (by simp) (by omega) HE3.out).mono ?_
  rintro e w' ⟨rfl, rfl⟩
  refine hK.out _ _ ?ha16 (fun hHeld => ?ra16)
  case ha16 => ((try dsimp only); go_keep)
  clear hK Kq
  try simp only [Act.put, sA, sB, sC]
  refine tk 17 rfl (by intro w h; (try dsimp only at h); go_simp; try with_reducible rfl) ?_
  try simp only [Act.put, sA, sB, sC]
  refine wpAnyH_done (by kernel_rfl) ?_ _
  refine NoPanic.normal ?_
  go_wp2
  go_ret
  exact ⟨rfl, HG3.out⟩
end Go.Proofs.YtnlpeiffbnlncaaDoor
