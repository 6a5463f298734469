/- Contract: parlkeep2's works answers true. -/
import Derived.Test.YtnlpeiffbnlncaaDoorQOf
namespace Go.Proofs.YtnlpeiffbnlncaaDoor
open Go.RowKit
set_option linter.unusedVariables false

def workG (s : Int) : Gram := ⟨1, 1, s, [⟨0, [⟨true, 0⟩, ⟨false, 0⟩]⟩, ⟨0, []⟩]⟩
theorem workE : whereE (workG 0) 0 = 0 := by decide +kernel
theorem workL : ofL (workG 0) 0 = [0, 1] := by decide +kernel
theorem workC : checkI (workG 1) = 1 := by decide +kernel

theorem work_els (w w' : World) (o : Obj) (n : Nat) (hn : n = w.heap.size)
    (hb : Below (n + 2) ((w.alloc (.cells #[.bool true, .int .i64 0, .bool false, .int .i64 0] 69)).alloc (.cells #[.int .i64 0, .slice (some ⟨n, 0, none⟩) 2 2, .int .i64 0, .slice none 0 0] 57)) w') :
    Els w' (fun b => b < n + 2) (workG 0).rules (some ⟨n + 1, 0, none⟩) := by
  subst hn
  have b1 : Blk' w' w.heap.size 69 #[.bool true, .int .i64 0, .bool false, .int .i64 0] := ((Blk'.new w _ _).alloc _).below hb (by omega)
  have b2 : Blk' w' (w.heap.size + 1) 57 #[.int .i64 0, .slice (some ⟨w.heap.size, 0, none⟩) 2 2, .int .i64 0, .slice none 0 0] := (Blk'.new' _ _ _ (by simp)).below hb (by omega)
  have i0 : I64 0 := ⟨by omega, by omega⟩
  refine els_of_blk [[.int .i64 0, .slice (some ⟨w.heap.size, 0, none⟩) 2 2], [.int .i64 0, .slice none 0 0]] b2 rfl rfl (rd_two ⟨_, rfl, i0, Vl.of_slice rfl (by simp) (by omega) ?_⟩ ⟨_, rfl, i0, Vl.nil⟩) (by omega)
  exact els_of_blk [[.bool true, .int .i64 0], [.bool false, .int .i64 0]] b1 rfl rfl (rd_two ⟨rfl, i0⟩ ⟨rfl, i0⟩) (by omega)

set_option maxRecDepth 100000 in
theorem works_any (w : World) : Calls Tryd.prog 17 #[] w fun e w' => e = .returned (.bool true) ∧ Below w.heap.size w w' := by
  go_enter Tryd.func17, Tryd.ntmps17
  go_wp2_with fail
  have hE := work_els w _ (.cells #[] 0) w.heap.size rfl (((Below.refl _ _).alloc (by simp) (.cells #[.int .i64 1, .int .i64 1, .int .i64 0, .slice (some ⟨w.heap.size + 1, 0, none⟩) 2 2] 25)))
  refine (of_any (workG 0) 0 (some ⟨w.heap.size + 1, 0, none⟩) 2 _ _ (by decide) (by omega) hE).mono ?_
  rintro e w1 ⟨v, rfl, hown, hb1⟩
  rw [workE]
  rw [workL] at hown
  obtain ⟨Av, cv, hv, _⟩ := hown.form
  subst hv
  have hG1 := (Blk'.new' (g := w.heap.size + 2) ((w.alloc (.cells #[.bool true, .int .i64 0, .bool false, .int .i64 0] 69)).alloc (.cells #[.int .i64 0, .slice (some ⟨w.heap.size, 0, none⟩) 2 2, .int .i64 0, .slice none 0 0] 57)) 25 #[.int .i64 1, .int .i64 1, .int .i64 0, .slice (some ⟨w.heap.size + 1, 0, none⟩) 2 2] (by simp)).below hb1 (by simp)
  have hba := (((Below.refl w.heap.size w).alloc (Nat.le_refl _) (.cells #[.bool true, .int .i64 0, .bool false, .int .i64 0] 69)).alloc (by simp) (.cells #[.int .i64 0, .slice (some ⟨w.heap.size, 0, none⟩) 2 2, .int .i64 0, .slice none 0 0] 57)).alloc (by simp; omega) (.cells #[.int .i64 1, .int .i64 1, .int .i64 0, .slice (some ⟨w.heap.size + 1, 0, none⟩) 2 2] 25)
  have HB1 := Lib.hid (bthen hba hb1 (by simp; omega))
  have HE1 := Lib.hid (hE.below hb1)
  have c0 : w1.cell? ⟨w.heap.size + 1 + 1, 0, none⟩ = some (.int .i64 1) := hG1.cell 0
  have c1 : w1.cell? ⟨w.heap.size + 1 + 1, 1, none⟩ = some (.int .i64 1) := hG1.cell 1
  have c2 : w1.cell? ⟨w.heap.size + 1 + 1, 2, none⟩ = some (.int .i64 0) := hG1.cell 2
  have c3 : w1.cell? ⟨w.heap.size + 1 + 1, 3, none⟩ = some (.slice (some ⟨w.heap.size + 1, 0, none⟩) 2 2) := hG1.cell 3
  have f2 : w1.frozen? ⟨w.heap.size + 1 + 1, 2, none⟩ = false := hG1.frozen 2
  have hz1 := hG1.lt
  clear hown hb1 hG1 hba hE
  go_wp2_with fail
  have hE2 : Els (w1.setCell ⟨w.heap.size + 1 + 1, 2, none⟩ (.int .i64 1)) (fun b => b < w.heap.size + 2) (workG 1).rules (some ⟨w.heap.size + 1, 0, none⟩) :=
    HE1.out.keep (fun p hp _ => World.cell?_setCell_other _ _ _ _ (fun e => by rw [← e] at hp; simp at hp)) (fun _ h => h)
  refine (check_any (workG 1) (some ⟨w.heap.size + 1, 0, none⟩) 2 _ _ (by decide) (by omega) hE2).mono ?_
  rintro e w2 ⟨rfl, hb2⟩
  rw [workC]
  have HB2 := Lib.hid hb2
  clear hb2 hE2 c0 c1 c2 c3 f2
  go_wp2
  go_ret
  exact ⟨rfl, bthen (HB1.out.setCell (p := ⟨w.heap.size + 1 + 1, 2, none⟩) (by show w.heap.size ≤ w.heap.size + 1 + 1; omega) _) HB2.out (by simp; exact HB1.out.size)⟩
end Go.Proofs.YtnlpeiffbnlncaaDoor
