/- Contract: slices.Compare at ints. -/
import Derived.Test.YtnlpeiffbnlncaaDoorQp2
import Derived.Test.YtnlpeiffbnlncaaDoorQCmp
namespace Go.Proofs.YtnlpeiffbnlncaaDoor
open Go.RowKit
set_option linter.unusedVariables false

theorem cmpL_drop {xs ys : List Int} {k : Nat} {x y : Int} (hx : xs[k]? = some x) (hy : ys[k]? = some y) : cmpL (xs.drop k) (ys.drop k) = if cmpI x y = 0 then cmpL (xs.drop (k + 1)) (ys.drop (k + 1)) else cmpI x y := by
  rw [drop_cons hx, drop_cons hy, cmpL]
  unfold cmpI
  by_cases h1 : x < y
  · simp [h1]
  · by_cases h2 : y < x
    · simp [h1, h2]
    · simp [h1, h2]

set_option maxRecDepth 100000 in
set_option maxHeartbeats 2000000 in
theorem compareInts_any (xs ys : List Int) (A B : Option Addr) (c d : Nat) (S S' : Nat → Prop) (w : World) (hm : xs.length ≤ 1000000) (hm' : ys.length ≤ 1000000) (hA : Els w S xs A) (hB : Els w S' ys B) :
    Calls Tryd.prog 106 #[.slice A xs.length c, .slice B ys.length d] w fun e w' => e = .returned (.int .i64 (cmpL xs ys)) ∧ w = w' := by
  have HA := Lib.hid hA
  have HB := Lib.hid hB
  have hm1 : (xs.length : Int) ≤ 1000000 := by omega
  have hm2 : (ys.length : Int) ≤ 1000000 := by omega
  clear hA hB
  go_enter Tryd.func106, Tryd.ntmps106
  go_wp2
  go_loop [11] (fun i => ∃ k : Nat, k ≤ xs.length ∧ k ≤ ys.length ∧ i = .int .i64 k ∧ cmpL xs ys = cmpL (xs.drop k) (ys.drop k)) (fun i => xs.length - (intOf i).toNat)
  case atStart => exact ⟨0, Nat.zero_le _, Nat.zero_le _, rfl, rfl⟩
  case round =>
    obtain ⟨k, hk, hk2, rfl, hcmp⟩ := hrel
    have HC := Lib.hid hcmp
    clear hcmp
    have hk0 : (0 : Int) ≤ (k : Int) := by omega
    by_cases hlt : k < xs.length
    · obtain ⟨x, hx⟩ := get_some hlt
      obtain ⟨bx, ox, rfl, _, _, _, xc⟩ := HA.out.int hx
      have hl1 : (k : Int) < (xs.length : Int) := by omega
      by_cases hlt2 : k < ys.length
      · obtain ⟨y, hy⟩ := get_some hlt2
        obtain ⟨by_, oy, rfl, _, _, _, yc⟩ := HB.out.int hy
        have hl2 : (k : Int) < (ys.length : Int) := by omega
        have hl3 : ¬ (ys.length : Int) ≤ (k : Int) := by omega
        have HD := Lib.hid (cmpL_drop hx hy)
        clear hx hy
        by_cases hz : cmpI x y = 0
        · have hzb : (cmpI x y != 0) = false := by simp [hz]
          have HN := Lib.hid (show cmpL xs ys = cmpL (xs.drop (k + 1)) (ys.drop (k + 1)) by rw [HC.out, HD.out, if_pos hz])
          clear hz
          go_wp2_with fail
          refine (cmpInt_any x y _).mono ?_
          rintro e w1 ⟨rfl, rfl⟩
          go_wp2
          go_round
          case rel => exact ⟨k + 1, hlt, hlt2, by go_num, HN.out⟩
          case measure => simp [intOf]; omega
        · have hzb : (cmpI x y != 0) = true := by simp [hz]
          have HN := Lib.hid (show cmpL xs ys = cmpI x y by rw [HC.out, HD.out, if_neg hz])
          clear hz
          go_wp2_with fail
          refine (cmpInt_any x y _).mono ?_
          rintro e w1 ⟨rfl, rfl⟩
          go_wp2
          go_ret
          exact ⟨ret_int HN.out.symm, rfl⟩
      · have hl3 : (ys.length : Int) ≤ (k : Int) := by omega
        have HN := Lib.hid (show cmpL xs ys = 1 by rw [HC.out, drop_cons hx, show ys.drop k = [] from List.drop_eq_nil_of_le (by omega)]; rfl)
        clear hx
        go_wp2
        go_ret
        exact ⟨ret_int HN.out.symm, rfl⟩
    · have hl1 : ¬ (k : Int) < (xs.length : Int) := by omega
      by_cases hlt2 : xs.length < ys.length
      · obtain ⟨y, hy⟩ := get_some (show k < ys.length by omega)
        have hl2 : (xs.length : Int) < (ys.length : Int) := by omega
        have HN := Lib.hid (show cmpL xs ys = -1 by rw [HC.out, drop_cons hy, show xs.drop k = [] from List.drop_eq_nil_of_le (by omega)]; rfl)
        clear hy
        go_wp2
        go_ret
        exact ⟨ret_int HN.out.symm, rfl⟩
      · have hl2 : ¬ (xs.length : Int) < (ys.length : Int) := by omega
        have HN := Lib.hid (show cmpL xs ys = 0 by rw [HC.out, show xs.drop k = [] from List.drop_eq_nil_of_le (by omega), show ys.drop k = [] from List.drop_eq_nil_of_le (by omega)]; rfl)
        go_wp2
        go_ret
        exact ⟨ret_int HN.out.symm, rfl⟩
end Go.Proofs.YtnlpeiffbnlncaaDoor
