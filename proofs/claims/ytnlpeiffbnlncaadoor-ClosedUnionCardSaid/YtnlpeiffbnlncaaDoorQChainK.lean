/- Contracts: parlkeep2.term, chain. -/
import Derived.Test.YtnlpeiffbnlncaaDoorQCheck
import Derived.Test.YtnlpeiffbnlncaaDoorQp1
namespace Go.Proofs.YtnlpeiffbnlncaaDoor
open Go.RowKit
set_option linter.unusedVariables false

def chainG : Gram := ⟨2, 1, 0, [⟨0, [⟨false, 0⟩, ⟨true, 0⟩]⟩, ⟨0, [⟨true, 1⟩]⟩]⟩
theorem chainC : checkI chainG = 0 := by decide +kernel
theorem keepT_any (n : Int) (w : World) : Calls Tryd.prog 71 #[.int .i64 n] w fun e w' => e = .returned (.agg #[.bool true, .int .i64 n]) ∧ w' = w.alloc (.cells #[.bool true, .int .i64 n] 69) := by
  go_enter Tryd.func71, Tryd.ntmps71
  go_wp2
  exact bodyPost_ret (v := .agg #[.bool true, .int .i64 n]) (by simp [results, Tryd.results71, go_sem]) rfl ⟨rfl, rfl⟩
def RetChain (w : World) (e : Ending) (w' : World) : Prop :=
  ∃ A, e = .returned (.agg #[.int .i64 2, .int .i64 1, .int .i64 0, .slice A 2 2]) ∧ Els w' (fun b => w.heap.size ≤ b ∧ b < w'.heap.size) chainG.rules A ∧ Below w.heap.size w w'
set_option maxRecDepth 100000 in
set_option maxHeartbeats 4000000 in
theorem chain_any (w : World) : Calls Tryd.prog 36 #[] w (RetChain w) := by
  go_enter Tryd.func36, Tryd.ntmps36
  go_wp2_with fail
  refine (keepT_any 0 _).mono ?_
  rintro e w1 ⟨rfl, rfl⟩
  go_wp2_with fail
  refine (keepT_any 1 _).mono ?_
  rintro e w1 ⟨rfl, rfl⟩
  go_wp2_with fail
  refine bodyPost_ret (v := .agg #[.int .i64 2, .int .i64 1, .int .i64 0, .slice (some ⟨w.heap.size + 1 + 1 + 1 + 1 + 1, 0, none⟩) 2 2]) (by simp [results, Tryd.results36, go_sem]) rfl ⟨_, rfl, ?_, ?_⟩
  · have i0 : I64 0 := ⟨by omega, by omega⟩
    have i1 : I64 1 := ⟨by omega, by omega⟩
    have b1 := (((Blk'.new' (g := w.heap.size + 1 + 1) ((w.alloc (.cells #[.int .i64 2, .int .i64 1, .int .i64 0, .slice (some ⟨w.heap.size + 1 + 1 + 1 + 1 + 1, 0, none⟩) 2 2] 25)).alloc (.cells #[.bool true, .int .i64 0] 69)) 69 #[.bool false, .int .i64 0, .bool true, .int .i64 0] (by simp)).alloc (.cells #[.bool true, .int .i64 1] 69)).alloc (.cells #[.bool true, .int .i64 1] 69)).alloc (.cells #[.int .i64 0, .slice (some ⟨w.heap.size + 1 + 1, 0, none⟩) 2 2, .int .i64 0, .slice (some ⟨w.heap.size + 1 + 1 + 1 + 1, 0, none⟩) 1 1] 57)
    have b2 := (Blk'.new' (g := w.heap.size + 1 + 1 + 1 + 1) ((((w.alloc (.cells #[.int .i64 2, .int .i64 1, .int .i64 0, .slice (some ⟨w.heap.size + 1 + 1 + 1 + 1 + 1, 0, none⟩) 2 2] 25)).alloc (.cells #[.bool true, .int .i64 0] 69)).alloc (.cells #[.bool false, .int .i64 0, .bool true, .int .i64 0] 69)).alloc (.cells #[.bool true, .int .i64 1] 69)) 69 #[.bool true, .int .i64 1] (by simp)).alloc (.cells #[.int .i64 0, .slice (some ⟨w.heap.size + 1 + 1, 0, none⟩) 2 2, .int .i64 0, .slice (some ⟨w.heap.size + 1 + 1 + 1 + 1, 0, none⟩) 1 1] 57)
    have b3 := Blk'.new' (g := w.heap.size + 1 + 1 + 1 + 1 + 1) (((((w.alloc (.cells #[.int .i64 2, .int .i64 1, .int .i64 0, .slice (some ⟨w.heap.size + 1 + 1 + 1 + 1 + 1, 0, none⟩) 2 2] 25)).alloc (.cells #[.bool true, .int .i64 0] 69)).alloc (.cells #[.bool false, .int .i64 0, .bool true, .int .i64 0] 69)).alloc (.cells #[.bool true, .int .i64 1] 69)).alloc (.cells #[.bool true, .int .i64 1] 69)) 57 #[.int .i64 0, .slice (some ⟨w.heap.size + 1 + 1, 0, none⟩) 2 2, .int .i64 0, .slice (some ⟨w.heap.size + 1 + 1 + 1 + 1, 0, none⟩) 1 1] (by simp)
    refine els_of_blk [[.int .i64 0, .slice (some ⟨w.heap.size + 1 + 1, 0, none⟩) 2 2], [.int .i64 0, .slice (some ⟨w.heap.size + 1 + 1 + 1 + 1, 0, none⟩) 1 1]] b3 rfl rfl (rd_two ⟨_, rfl, i0, Vl.of_slice rfl (by simp) (by omega) ?_⟩ ⟨_, rfl, i0, Vl.of_slice rfl (by simp) (by omega) ?_⟩) (by simp; omega)
    · exact els_of_blk [[.bool false, .int .i64 0], [.bool true, .int .i64 0]] b1 rfl rfl (rd_two ⟨rfl, i0⟩ ⟨rfl, i0⟩) (by simp; omega)
    · exact els_of_blk [[.bool true, .int .i64 1]] b2 rfl rfl (rd_one ⟨rfl, i1⟩) (by simp; omega)
  · exact ((((((Below.refl _ _).alloc (Nat.le_refl _) _).alloc (by simp) _).alloc (by simp; omega) _).alloc (by simp; omega) _).alloc (by simp; omega) _).alloc (by simp; omega) _
end Go.Proofs.YtnlpeiffbnlncaaDoor
