/- Contract: core.Build$1: it compares two packs; which number it answers is not told. -/
import Derived.Test.YtnlpeiffbnlncaaDoorQGrB
import Derived.Test.YtnlpeiffbnlncaaDoorQw1
import Derived.Test.YtnlpeiffbnlncaaDoorQp2
import Derived.Deep.Cut
namespace Go.Proofs.YtnlpeiffbnlncaaDoor
open Go.RowKit
set_option linter.unusedVariables false

theorem cmpL_rg : ∀ (a b : List Int), I64 (cmpL a b)
  | [], [] => by unfold cmpL I64; omega
  | [], _ :: _ => by unfold cmpL I64; omega
  | _ :: _, [] => by unfold cmpL I64; omega
  | x :: xs, y :: ys => by
    have ih := cmpL_rg xs ys
    unfold cmpL
    split
    · unfold I64; omega
    · split
      · unfold I64; omega
      · exact ih

set_option maxRecDepth 100000 in
set_option maxHeartbeats 4000000 in
theorem build1_any (p q : PkV) (l l' : List Int) (S : Nat → Prop) (w : World) (hp : p.n = l.length ∧ l.length ≤ 1000000 ∧ Els w S l p.a) (hq : q.n = l'.length ∧ l'.length ≤ 1000000 ∧ Els w S l' q.a) (hS : ∀ b, S b → b < w.heap.size) :
    Calls Tryd.prog 103 #[p.v, q.v] w fun e w' => (∃ k : Int, e = .returned (.int .i64 k)) ∧ Below w.heap.size w w' := by
  obtain ⟨pr, pa, pn, pc⟩ := p
  obtain ⟨qr, qa, qn, qc⟩ := q
  dsimp only at hp hq
  obtain ⟨rfl, hp1, hp2⟩ := hp
  obtain ⟨rfl, hq1, hq2⟩ := hq
  unfold PkV.v
  dsimp only
  obtain ⟨w1, hw1⟩ : ∃ w1 : World, w1 = (w.alloc (.cells #[.int .i64 pr, .slice pa l.length pc] 128)).alloc (.cells #[.int .i64 qr, .slice qa l'.length qc] 128) := ⟨_, rfl⟩
  have HW1 := Lib.hid hw1
  have HA : Hid (Blk' w1 w.heap.size 128 #[.int .i64 pr, .slice pa l.length pc]) := Lib.hid (by rw [hw1]; exact (Blk'.new _ _ _).alloc _)
  have HB : Hid (Blk' w1 (w.heap.size + 1) 128 #[.int .i64 qr, .slice qa l'.length qc]) := Lib.hid (by rw [hw1]; exact Blk'.new' _ _ _ (by simp))
  have hb1 : Below w.heap.size w w1 := by rw [hw1]; exact ((Below.refl _ _).alloc (Nat.le_refl _) _).alloc (by simp) _
  have HG1 : Hid (Below w.heap.size w w1) := Lib.hid hb1
  have HP : Hid (Els w1 S l pa) := Lib.hid (hp2.belowB hb1 hS)
  have HQ : Hid (Els w1 S l' qa) := Lib.hid (hq2.belowB hb1 hS)
  clear hw1 hp2 hq2 hb1 hS
  go_enter Tryd.func103, Tryd.ntmps103
  go_upto_region 1 with (fail)
  rw [← HW1.out]
  have a0 : w1.cell? ⟨w.heap.size, 0, none⟩ = some (.int .i64 pr) := HA.out.cell 0
  have a1 : w1.cell? ⟨w.heap.size, 1, none⟩ = some (.slice pa l.length pc) := HA.out.cell 1
  have b0 : w1.cell? ⟨w.heap.size + 1, 0, none⟩ = some (.int .i64 qr) := HB.out.cell 0
  have b1 : w1.cell? ⟨w.heap.size + 1, 1, none⟩ = some (.slice qa l'.length qc) := HB.out.cell 1
  have zA : w.heap.size < w1.heap.size := HA.out.lt
  have zB : w.heap.size + 1 < w1.heap.size := HB.out.lt
  refine wp_region_noPanic ?_
  refine wp_region_held_drew (S := (fun w' => w'.cell? ⟨w.heap.size, 0, none⟩ = some (.int .i64 pr) ∧ w'.cell? ⟨w.heap.size, 1, none⟩ = some (.slice pa l.length pc) ∧ w'.cell? ⟨w.heap.size + 1, 0, none⟩ = some (.int .i64 qr) ∧ w'.cell? ⟨w.heap.size + 1, 1, none⟩ = some (.slice qa l'.length qc))) (by kernel_rfl) ?ha (fun hHeld => ?ba)
  case ha => ((try dsimp only); go_keep)
  refine tk 0 rfl (by intro w h; (try dsimp only at h); go_simp; try with_reducible rfl) ?_
  try simp only [Act.put, sA, sB, sC]
  refine tk 1 rfl (by intro w h; (try dsimp only at h); go_simp; try with_reducible rfl) ?_
  try simp only [Act.put, sA, sB, sC]
  refine tk 2 rfl (by intro w h; (try dsimp only at h); go_simp; try with_reducible rfl) ?_
  try simp only [Act.put, sA, sB, sC]
  refine tk 3 rfl (by intro w h; (try dsimp only at h); go_simp; try with_reducible rfl) ?_
  try simp only [Act.put, sA, sB, sC]
  refine tk 5 rfl (by intro w h; (try dsimp only at h); go_simp; try with_reducible rfl) ?_
  try simp only [Act.put, sA, sB, sC]
  refine tk 6 rfl (by intro w h; (try dsimp only at h); go_simp; try with_reducible rfl) ?_
  try simp only [Act.put, sA, sB, sC]
  refine tk 7 rfl (by intro w h; (try dsimp only at h); go_simp; try with_reducible rfl) ?_
  try simp only [Act.put, sA, sB, sC]
  refine tk 8 rfl (by intro w h; (try dsimp only at h); go_simp; try with_reducible rfl) ?_
  try simp only [Act.put, sA, sB, sC]
  refine take_call (i := 4) rfl (by kernel_rfl) (by rfl) (fun Kq hK => ?_)
  go_simp
  go_at_call 105
  refine (cmpInt_any _ _ w1.drew).mono ?_
  rintro e w' ⟨rfl, rfl⟩
  refine hK.out _ _ ?ha4 (fun hHeld => ?ra4)
  case ha4 => ((try dsimp only); go_keep)
  clear hK Kq
  try simp only [Act.put, sA, sB, sC]
  refine take_call (i := 9) rfl (by kernel_rfl) (by rfl) (fun Kq hK => ?_)
  go_simp
  go_at_call 106
  refine (compareInts_any l l' pa qa pc qc S S w1.drew hp1 hq1 HP.out HQ.out).mono ?_
  rintro e w' ⟨rfl, rfl⟩
  refine hK.out _ _ ?ha9 (fun hHeld => ?ra9)
  case ha9 => ((try dsimp only); go_keep)
  clear hK Kq
  try simp only [Act.put, sA, sB, sC]
  refine take_call (i := 10) rfl (by kernel_rfl) (by rfl) (fun Kq hK => ?_)
  go_simp
  obtain ⟨g3, hg3⟩ : ∃ g, g = w1.heap.size := ⟨_, rfl⟩
  obtain ⟨w3, hw3⟩ : ∃ w3 : World, w3 = (w1.alloc (.cells #[.int .i64 (cmpI pr qr), .int .i64 (cmpL l l')] 3)).drew := ⟨_, rfl⟩
  rw [← hw3, ← hg3]
  have hb3 : Below w1.heap.size w1 w3 := by rw [hw3]; exact ((Below.refl _ _).alloc (Nat.le_refl _) _).drew
  have HG3 : Hid (Below w.heap.size w w3) := Lib.hid (bthen HG1.out hb3 HG1.out.size)
  have HE3 : Hid (Els w3 (fun _ => True) [cmpI pr qr, cmpL l l'] (some ⟨g3, 0, none⟩)) := Lib.hid (els_icells (t := 3) (by rw [hw3, hg3]; exact (Blk'.new _ _ _).drew) (by intro v hv; simp at hv; rcases hv with rfl | rfl; exact cmpI_range _ _; exact cmpL_rg _ _) trivial)
  have a0y : w3.cell? ⟨w.heap.size, 0, none⟩ = some (.int .i64 pr) := (hb3.cell (p := ⟨w.heap.size, 0, none⟩) zA).trans a0
  have a1y : w3.cell? ⟨w.heap.size, 1, none⟩ = some (.slice pa l.length pc) := (hb3.cell (p := ⟨w.heap.size, 1, none⟩) zA).trans a1
  have b0y : w3.cell? ⟨w.heap.size + 1, 0, none⟩ = some (.int .i64 qr) := (hb3.cell (p := ⟨w.heap.size + 1, 0, none⟩) zB).trans b0
  have b1y : w3.cell? ⟨w.heap.size + 1, 1, none⟩ = some (.slice qa l'.length qc) := (hb3.cell (p := ⟨w.heap.size + 1, 1, none⟩) zB).trans b1
  have zAy : w.heap.size < w3.heap.size := Nat.lt_of_lt_of_le zA hb3.size
  have zBy : w.heap.size + 1 < w3.heap.size := Nat.lt_of_lt_of_le zB hb3.size
  clear hw3 hg3 hb3
  refine hK.out _ _ ?ha10 (fun hHeld => ?ra10)
  case ha10 => ((try dsimp only); go_keep)
  clear hK Kq
  try simp only [Act.put, sA, sB, sC]
  refine take_call (i := 11) rfl (by kernel_rfl) (by rfl) (fun Kq hK => ?_)
  go_simp
  go_at_call 104
  refine (or_any (some ⟨g3, 0, none⟩) 2 [cmpI pr qr, cmpL l l'] (fun _ => True) w3 (by simp) (by omega) HE3.out).mono ?_
  rintro e w' ⟨rfl, rfl⟩
  refine hK.out _ _ ?ha11 (fun hHeld => ?ra11)
  case ha11 => ((try dsimp only); go_keep)
  clear hK Kq
  try simp only [Act.put, sA, sB, sC]
  refine tk 12 rfl (by intro w h; (try dsimp only at h); go_simp; try with_reducible rfl) ?_
  try simp only [Act.put, sA, sB, sC]
  refine wpAnyH_done (by kernel_rfl) ?_ _
  refine NoPanic.normal ?_
  go_wp2
  go_ret
  exact ⟨⟨_, rfl⟩, HG3.out⟩
end Go.Proofs.YtnlpeiffbnlncaaDoor
