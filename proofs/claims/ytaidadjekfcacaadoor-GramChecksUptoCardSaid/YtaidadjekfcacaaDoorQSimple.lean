/- Contract: parllaw2.simple. -/
import Derived.Test.YtaidadjekfcacaaDoorQValid
import Derived.Test.YtaidadjekfcacaaDoorQp1
namespace Go.Proofs.YtaidadjekfcacaaDoor
open Go.RowKit
set_option linter.unusedVariables false

def simpleG : Gram := ⟨1, 1, 0, [⟨0, [⟨false, 0⟩, ⟨true, 0⟩]⟩, ⟨0, []⟩]⟩
theorem simpleC : checkI simpleG = 0 := by decide +kernel
def RetSimple (w : World) (e : Ending) (w' : World) : Prop :=
  ∃ A, e = .returned (.agg #[.int .i64 1, .int .i64 1, .int .i64 0, .slice A 2 2]) ∧ Els w' (fun b => w.heap.size ≤ b ∧ b < w'.heap.size) simpleG.rules A ∧ Below w.heap.size w w'
set_option maxRecDepth 100000 in
theorem simple_any (w : World) : Calls Tryd.prog 39 #[] w (RetSimple w) := by
  go_enter Tryd.func39, Tryd.ntmps39
  go_wp2
  refine bodyPost_ret (v := .agg #[.int .i64 1, .int .i64 1, .int .i64 0, .slice (some ⟨w.heap.size + 1 + 1, 0, none⟩) 2 2]) (by simp [results, Tryd.results39, go_sem]) rfl ⟨_, rfl, ?_, ?_⟩
  · have b1 := ((Blk'.new' (g := w.heap.size + 1) (w.alloc (.cells #[.int .i64 1, .int .i64 1, .int .i64 0, .slice (some ⟨w.heap.size + 1 + 1, 0, none⟩) 2 2] 25)) 64 #[.bool false, .int .i64 0, .bool true, .int .i64 0] (by simp)).alloc (.cells #[.int .i64 0, .slice (some ⟨w.heap.size + 1, 0, none⟩) 2 2, .int .i64 0, .slice none 0 0] 61))
    have b2 := (Blk'.new' (g := w.heap.size + 1 + 1) ((w.alloc (.cells #[.int .i64 1, .int .i64 1, .int .i64 0, .slice (some ⟨w.heap.size + 1 + 1, 0, none⟩) 2 2] 25)).alloc (.cells #[.bool false, .int .i64 0, .bool true, .int .i64 0] 64)) 61 #[.int .i64 0, .slice (some ⟨w.heap.size + 1, 0, none⟩) 2 2, .int .i64 0, .slice none 0 0] (by simp))
    have i0 : I64 0 := ⟨by omega, by omega⟩
    refine els_of_blk [[.int .i64 0, .slice (some ⟨w.heap.size + 1, 0, none⟩) 2 2], [.int .i64 0, .slice none 0 0]] b2 rfl rfl (rd_two ⟨_, rfl, i0, Vl.of_slice rfl (by simp) (by omega) ?_⟩ ⟨_, rfl, i0, Vl.nil⟩) (by simp; omega)
    exact els_of_blk [[.bool false, .int .i64 0], [.bool true, .int .i64 0]] b1 rfl rfl (rd_two ⟨rfl, i0⟩ ⟨rfl, i0⟩) (by simp)
  · exact (((Below.refl _ _).alloc (Nat.le_refl _) _).alloc (by simp) _).alloc (by simp; omega) _
end Go.Proofs.YtaidadjekfcacaaDoor
