/- Contract: slices.Equal at symbols. -/
import Derived.Test.YtaidadjekfcacaaDoorQp1
import Derived.Deep.QuietTactic
import Derived.BigQuiet
namespace Go.Proofs.YtaidadjekfcacaaDoor
open Go.RowKit
set_option linter.unusedVariables false

set_option maxRecDepth 100000 in
set_option maxHeartbeats 1000000 in
theorem equalSym_any (A A' : Option Addr) (xs ys : List Sym) (n n' c c' : Nat) (S S' : Nat → Prop) (w : World) (hn : n = xs.length) (hn' : n' = ys.length) (hm : xs.length ≤ 9223372036854775807) (hm' : ys.length ≤ 9223372036854775807) (hA : Els w S xs A) (hA' : Els w S' ys A') :
    Calls Tryd.prog 109 #[.slice A n c, .slice A' n' c'] w fun e w' => e = .returned (.bool (decide (xs = ys))) ∧ Below w.heap.size w w' := by
  subst hn; subst hn'
  by_cases hl : xs.length = ys.length
  · have hl' : ((xs.length : Int) != (ys.length : Int)) = false := by simp; omega
    have HL := Lib.hid hl
    clear hl
    go_enter Tryd.func109, Tryd.ntmps109
    go_wp2
    go_loopw [13] (fun i wr => ∃ k : Nat, k ≤ xs.length ∧ i = .int .i64 k ∧ Hid (xs.take k = ys.take k) ∧ Below w.heap.size w wr) (fun i _ => xs.length - (intOf i).toNat)
    case atStart => exact ⟨0, Nat.zero_le _, rfl, Lib.hid rfl, Below.refl _ _⟩
    case round =>
      obtain ⟨wo, hwo⟩ : ∃ wo : World, wo = wr := ⟨_, rfl⟩
      subst hwo
      obtain ⟨k, hk, rfl, HT, hb⟩ := hrel
      have HB := Lib.hid hb
      clear hb
      by_cases hlt : k < xs.length
      · have hlt' : k < ys.length := by have := HL.out; omega
        have hk1 : (k : Int) < (xs.length : Int) := by omega
        have hk2 : (k : Int) < (ys.length : Int) := by omega
        obtain ⟨x, hx⟩ := get_some hlt
        obtain ⟨y, hy⟩ := get_some hlt'
        obtain ⟨b, o, rfl, _, hbs, hi, hc0, hc1⟩ := (hA.below HB.out).sym hx
        obtain ⟨b', o', rfl, _, hbs', hi', hc0', hc1'⟩ := (hA'.below HB.out).sym hy
        have HX := Lib.hid (And.intro hx hy)
        have hk0 : (0 : Int) ≤ (k : Int) := by omega
        clear hx hy
        obtain ⟨t, z⟩ := x
        obtain ⟨t', z'⟩ := y
        dsimp only at *
        by_cases ht : t = t'
        · subst ht
          by_cases hz : z = z'
          · subst hz
            have HE := Lib.hid (take_eq HX.out.1 HX.out.2 rfl HT.out)
            go_wp2_with fail
            go_quiet (fail)
            go_wp2
            go_roundw
            case rel => exact ⟨k + 1, hlt, by go_num, HE, bdrewN HB.out⟩
            case measure => simp [intOf]; omega
          · have HE := Lib.hid (take_ne HX.out.1 HX.out.2 (fun h => hz (by injection h)))
            have hq : (z == z') = false := by simp [hz]
            clear hz
            go_wp2_with fail
            go_quiet (fail)
            go_wp2
            go_ret
            exact ⟨ret_bool (by simp [HE.out]), bdrewN HB.out⟩
        · have HE := Lib.hid (take_ne HX.out.1 HX.out.2 (fun h => ht (by injection h)))
          have hq : (t == t') = false := by simp [ht]
          clear ht
          go_wp2_with fail
          go_quiet (fail)
          go_wp2
          go_ret
          exact ⟨ret_bool (by simp [HE.out]), bdrewN HB.out⟩
      · have HE := Lib.hid (take_all HL.out (by omega) HT.out)
        go_wp2
        go_ret
        exact ⟨ret_bool (by simp [HE.out]), HB.out⟩
  · have hl' : ((xs.length : Int) != (ys.length : Int)) = true := by simp; omega
    have HE : Hid (xs ≠ ys) := Lib.hid (by rintro rfl; exact hl rfl)
    clear hl
    go_enter Tryd.func109, Tryd.ntmps109
    go_wp2
    go_ret
    exact ⟨ret_bool (by simp [HE.out]), Below.refl _ _⟩

end Go.Proofs.YtaidadjekfcacaaDoor
