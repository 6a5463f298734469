/- Contracts: slices.Index and slices.Contains at int. -/
import Derived.Test.YtpcjfgikicpioaaQp1
namespace Go.Proofs.Ytpcjfgikicpioaa
open Go.RowKit
set_option linter.unusedVariables false

set_option maxRecDepth 100000 in
theorem indexInt_any (A : Option Addr) (c : Nat) (xs : List Int) (z : Int) (S : Nat → Prop) (w : World) (hm : xs.length ≤ 9223372036854775807) (hA : Els w S xs A) :
    Calls Try.prog 75 #[.slice A xs.length c, .int .i64 z] w fun e w' => e = .returned (.int .i64 (idxI (fun x => z == x) xs)) ∧ w = w' := by
  go_enter Try.func75, Try.ntmps75
  go_wp2
  go_loop [8] (fun i => ∃ k : Nat, k ≤ xs.length ∧ i = .int .i64 k ∧ (∀ y ∈ xs.take k, (z == y) = false)) (fun i => xs.length - (intOf i).toNat)
  case atStart => exact ⟨0, Nat.zero_le _, rfl, by simp⟩
  case round =>
    obtain ⟨k, hk, rfl, hno⟩ := hrel
    have HN := Lib.hid hno
    clear hno
    by_cases hlt : k < xs.length
    · obtain ⟨x, hx⟩ := get_some hlt
      obtain ⟨b, o, rfl, _, hbs, hi, hc0⟩ := hA.int hx
      have HX := Lib.hid hx
      clear hx
      have hk0 : (0 : Int) ≤ (k : Int) := by omega
      have hk1 : (k : Int) < (xs.length : Int) := by omega
      cases hp : (z == x)
      · go_wp2
        go_round
        case rel => exact ⟨k + 1, by omega, by go_num, by
          rw [take_snoc HX.out]
          intro y hy
          rcases List.mem_append.1 hy with h | h
          · exact HN.out y h
          · simp at h; subst h; exact hp⟩
        case measure => simp [intOf]; omega
      · have E0 := Lib.hid (idxI_hit (p := fun x => z == x) HX.out hp HN.out)
        go_wp2
        go_ret
        exact ⟨ret_int E0.out.symm, rfl⟩
    · have E0 := Lib.hid (show idxI (fun x => z == x) xs = -1 from idxI_none (by have h := HN.out; rwa [List.take_of_length_le (by omega)] at h))
      go_wp2
      go_ret
      exact ⟨ret_int E0.out.symm, rfl⟩

theorem any_eq_mem (xs : List Int) (z : Int) : xs.any (fun x => z == x) = decide (z ∈ xs) := by
  rw [Bool.eq_iff_iff]; simp [List.any_eq_true]
theorem containsInt_any (A : Option Addr) (n c : Nat) (xs : List Int) (z : Int) (S : Nat → Prop) (w : World) (hn : n = xs.length) (hm : xs.length ≤ 9223372036854775807) (hA : Els w S xs A) :
    Calls Try.prog 44 #[.slice A n c, .int .i64 z] w fun e w' => e = .returned (.bool (decide (z ∈ xs))) ∧ w = w' := by
  subst hn
  have HA := Lib.hid hA
  clear hA
  go_enter Try.func44, Try.ntmps44
  go_wp2_with fail
  refine (indexInt_any A c xs z S _ hm HA.out).mono ?_
  rintro e w1 ⟨rfl, rfl⟩
  go_wp2
  go_ret
  exact ⟨ret_bool ((idxI_nonneg _ _).trans (any_eq_mem xs z)), rfl⟩
end Go.Proofs.Ytpcjfgikicpioaa
