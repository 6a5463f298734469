/- Contract: parlkeep2.closes. -/
import Derived.Test.YtnlpeiffbnlncaaDoorQw2
import Derived.Test.YtnlpeiffbnlncaaDoorQClosedStar
namespace Go.Proofs.YtnlpeiffbnlncaaDoor
open Go.RowKit
set_option linter.unusedVariables false

theorem chainS : checkI (starG chainG) = 0 := by decide +kernel
theorem chainL : (starG chainG).rules.length = 4 := by decide +kernel
set_option maxRecDepth 100000 in
set_option maxHeartbeats 4000000 in
theorem closes_any (w : World) : Calls Tryd.prog 12 #[] w fun e w' => e = .returned (.bool true) ∧ Below w.heap.size w w' := by
  have HC := Lib.hid chainC
  have HCS := Lib.hid chainS
  have HCL := Lib.hid chainL
  go_enter Tryd.func12, Tryd.ntmps12
  go_wp2_with fail
  refine (chain_any w).mono ?_
  rintro e w1 ⟨A, rfl, hA, hb1⟩
  have HB1 := Lib.hid hb1
  have HA := Lib.hid hA
  clear hA hb1
  go_wp2_with fail
  refine (star_any chainG A 2 _ w1 HC.out HCS.out (by decide) (by omega) HA.out (fun b hb => hb.2)).mono ?_
  rintro e w2 ⟨A2, c2, rfl, h1, h2, h3, hb2⟩
  have HB2 := Lib.hid (bthen HB1.out hb2 HB1.out.size)
  rw [HCL.out]
  clear h1 h2 h3 hb2
  go_wp2
  go_ret
  exact ⟨rfl, HB2.out.alloc HB2.out.size _⟩
end Go.Proofs.YtnlpeiffbnlncaaDoor
