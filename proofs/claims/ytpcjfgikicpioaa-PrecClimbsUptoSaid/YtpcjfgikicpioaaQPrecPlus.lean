/- parllaw2.plus: a small table. -/
import Derived.Test.YtpcjfgikicpioaaQPrecCheck
namespace Go.Proofs.Ytpcjfgikicpioaa
open Go.RowKit
set_option linter.unusedVariables false

def plusT : Table := ⟨2, 0, -1, -1, [⟨1, [1]⟩]⟩
set_option maxRecDepth 100000 in
set_option maxHeartbeats 1000000 in
theorem plus_any (w : World) : Calls Try.prog 7 #[] w fun e w' => ∃ A, e = .returned (.agg #[.int .i64 2, .int .i64 0, .int .i64 (-1), .int .i64 (-1), .slice A 1 1]) ∧ Els w' (fun b => b < w'.heap.size) plusT.levels A ∧ Below w.heap.size w w' := by
  go_enter Try.func7, Try.ntmps7
  go_wp2
  have hB : Below w.heap.size w (((w.alloc (.cells #[.int .i64 2, .int .i64 0, .int .i64 (-1), .int .i64 (-1), .slice (some ⟨w.heap.size + 1 + 1, 0, none⟩) 1 1] 24)).alloc (.cells #[.int .i64 1] 3)).alloc (.cells #[.int .i64 1, .slice (some ⟨w.heap.size + 1, 0, none⟩) 1 1] 79)) := (((Below.refl _ _).alloc (Nat.le_refl _) _).alloc (by simp) _).alloc (by simp; omega) _
  have h1 : Blk' (((w.alloc (.cells #[.int .i64 2, .int .i64 0, .int .i64 (-1), .int .i64 (-1), .slice (some ⟨w.heap.size + 1 + 1, 0, none⟩) 1 1] 24)).alloc (.cells #[.int .i64 1] 3)).alloc (.cells #[.int .i64 1, .slice (some ⟨w.heap.size + 1, 0, none⟩) 1 1] 79)) (w.heap.size + 1) 3 #[.int .i64 1] := (Blk'.new' _ _ _ (by simp)).alloc _
  have h2 : Blk' (((w.alloc (.cells #[.int .i64 2, .int .i64 0, .int .i64 (-1), .int .i64 (-1), .slice (some ⟨w.heap.size + 1 + 1, 0, none⟩) 1 1] 24)).alloc (.cells #[.int .i64 1] 3)).alloc (.cells #[.int .i64 1, .slice (some ⟨w.heap.size + 1, 0, none⟩) 1 1] 79)) (w.heap.size + 1 + 1) 79 #[.int .i64 1, .slice (some ⟨w.heap.size + 1, 0, none⟩) 1 1] := Blk'.new' _ _ _ (by simp)
  exact bodyPost_ret (v := .agg #[.int .i64 2, .int .i64 0, .int .i64 (-1), .int .i64 (-1), .slice (some ⟨w.heap.size + 1 + 1, 0, none⟩) 1 1]) (by simp [results, Try.results7, go_sem]) rfl
    ⟨_, rfl, els_of_blk [[.int .i64 1, .slice (some ⟨w.heap.size + 1, 0, none⟩) 1 1]] h2 rfl rfl (rd_one ⟨_, rfl, ⟨by decide, by decide⟩, Vl.of_slice rfl (by simp) (by omega) (els_of_blk [[.int .i64 1]] h1 rfl rfl (rd_one ⟨rfl, by decide, by decide⟩) (by simp))⟩) (by simp), hB⟩
end Go.Proofs.Ytpcjfgikicpioaa
