/- Contract: parlkeep2.straightens: it returns true (out of XLeftrecNoneC). -/
import Derived.Test.YtjdojogjogenkaaDoorQLeftPub
import Derived.Test.YtjdojogjogenkaaDoorQw2
namespace Go.Proofs.YtjdojogjogenkaaDoor
open Go.RowKit
set_option linter.unusedVariables false
theorem straightR3 : (strG chainG 1).rules.length = 3 := by decide +kernel
theorem straightF3 : (fromL chainG 1).length = 3 := by decide +kernel
set_option maxRecDepth 100000 in
set_option maxHeartbeats 4000000 in
theorem straightens_ok (w : World) : Calls Tryd.prog 33 #[] w fun e w' => e = .returned (.bool true) ∧ Below w.heap.size w w' := by
 have HC := Lib.hid chainC
 have HOk : Hid (StrOk chainG 1) := Lib.hid chK_ok
 go_enter Tryd.func33, Tryd.ntmps33
 go_wp2_with fail
 refine (chain_any w).mono ?_
 rintro e w1 ⟨A, rfl, hA, hb1⟩
 have HB1 := Lib.hid hb1
 have HA := Lib.hid hA
 clear hA hb1
 go_wp2_with fail
 refine (leftPub_any chainG 2 1 A 2 _ w1 rfl rfl HC.out (by decide) (by omega) HA.out (fun b hb => hb.2)).mono ?_
 rintro e w2 (⟨k, hbad, _⟩ | ⟨_, A1, A2, c1, c2, rfl, h1, h2, h3, h4, h5, h6, hb2⟩)
 ·exact absurd hbad HOk.out.not
 have HB2 := Lib.hid (bthen HB1.out hb2 HB1.out.size)
 rw [straightR3, straightF3]
 clear h1 h2 h3 h4 h5 h6 hb2
 go_wp2
 go_ret
 exact ⟨rfl, HB2.out.alloc HB2.out.size _⟩
end Go.Proofs.YtjdojogjogenkaaDoor
