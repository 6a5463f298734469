/- Contract: parlmake.Word. -/
import Derived.Test.YtnlpeiffbnlncaaDoorQMake
import Derived.Test.YtnlpeiffbnlncaaDoorQp1
import Derived.Test.YtnlpeiffbnlncaaDoorQCheck
namespace Go.Proofs.YtnlpeiffbnlncaaDoor
open Go.RowKit
set_option linter.unusedVariables false

def MkwS (tm : Int) (most : Nat) (n : Nat) (w : World) (v i : Value) (wr : World) : Prop :=
  ∃ (k : Nat) (ws : List Int), k ≤ n ∧ i = .int .i64 k ∧ ws.length ≤ most ∧ (∀ x ∈ ws, 0 ≤ x ∧ x < tm) ∧ Own wr (fun _ => False) w.heap.size 3 v ws ∧ Below w.heap.size w wr

set_option maxRecDepth 100000 in
set_option maxHeartbeats 8000000 in
theorem mkword_any (tm : Int) (most : Nat) (xs : List Int) (A : Option Addr) (c : Nat) (S : Nat → Prop) (w : World) (ht : 1 ≤ tm) (ht' : tm ≤ 100) (hm : most ≤ 100) (hlc : xs.length ≤ c) (hc : c ≤ 9223372036854775807) (hA : Els w S xs A) (hS : ∀ b, S b → b < w.heap.size) :
    Calls Tryd.prog 10 #[.int .i64 tm, .int .i64 (most : Int), .slice A xs.length c] w fun e w' => ∃ v ws, e = .returned v ∧ ws.length ≤ most ∧ (∀ x ∈ ws, 0 ≤ x ∧ x < tm) ∧ Own w' (fun _ => False) w.heap.size 3 v ws ∧ Below w.heap.size w w' := by
  have HA := Lib.hid hA
  have HS := Lib.hid hS
  clear hA hS
  go_enter Tryd.func10, Tryd.ntmps10
  go_wp2_with fail
  go_loopw [7, 12] (fun v i wr => MkwS tm most xs.length w v i wr) (fun _ i _ => xs.length - (intOf i).toNat)
  case atStart => exact ⟨0, [], Nat.zero_le _, rfl, Nat.zero_le _, by simp, Own.nil _ _ _ _, Below.refl _ _⟩
  case round =>
    obtain ⟨wo, hwo⟩ : ∃ wo : World, wo = wr := ⟨_, rfl⟩
    subst hwo
    obtain ⟨k, ws, hk, rfl, hwl, hws, hown, hb⟩ := hrel
    obtain ⟨As, cs, rfl, hcs1, hcs2, _⟩ := hown.form
    have HO := Lib.hid hown
    have HW := Lib.hid hws
    have HB := Lib.hid hb
    clear hown hws hb
    by_cases hlt : k < xs.length
    · obtain ⟨x, hx⟩ := get_some hlt
      obtain ⟨bi, oi, rfl, hSi, hbi, hxi, hxc⟩ := (HA.out.belowB HB.out HS.out).int hx
      have HX := Lib.hid hxi
      have hk0 : (0 : Int) ≤ (k : Int) := by omega
      clear hx hxi
      by_cases hfull : ws.length = most
      · go_wp2
        go_ret
        exact ⟨_, ws, rfl, hwl, HW.out, HO.out, HB.out⟩
      · have hne : ¬ ((ws.length : Int) = (most : Int)) := by omega
        go_wp2_with fail
        refine (below_any x tm _ HX.out ht (by omega)).mono ?_
        rintro e w3 ⟨r, hr0, hr1, rfl, rfl⟩
        have HR := Lib.hid (And.intro hr0 hr1)
        have hI : Hid (I64 r) := Lib.hid ⟨by omega, by omega⟩
        have hcap1 : (ws.length + 1) * 8 ≤ 140737488355328 := by omega
        have hcap2 : ws.length + 1 ≤ 9223372036854775807 := by omega
        clear hr0 hr1
        go_wp2_with (at_builtin; refine wpList_own1 _ rfl _ _ elemInt rfl rfl (HO.out.alloc _) r [.int .i64 r] rfl (At.new _ _ _) ⟨rfl, hI.out⟩ hcap1 hcap2 (Nat.le_trans HB.out.size ((Below.refl _ _).alloc (Nat.le_refl _) _).size) ?_; intro v' w3 hown3 hg3 hat3; have H3 := Lib.hid (And.intro hown3 hg3); clear hown3 hg3 hat3)
        go_roundw
        case rel =>
          refine ⟨k + 1, ws ++ [r], hlt, by go_num, by rw [List.length_append]; simp; omega, fun y hy => ?_, H3.out.1, bgrown (HB.out.alloc HB.out.size _) H3.out.2 (HO.out.alloc _) (Nat.le_refl _) (Nat.le_trans HB.out.size ((Below.refl _ _).alloc (Nat.le_refl _) _).size)⟩
          rcases List.mem_append.1 hy with h | h
          · exact HW.out y h
          · simp at h
            subst h
            exact HR.out
        case measure => simp [intOf]; omega
    · go_wp2
      go_ret
      exact ⟨_, ws, rfl, hwl, HW.out, HO.out, HB.out⟩
end Go.Proofs.YtnlpeiffbnlncaaDoor
