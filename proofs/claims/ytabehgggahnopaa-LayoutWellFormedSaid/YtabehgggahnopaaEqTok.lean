/- Contract: slices.Equal at tokens. -/
import Derived.Test.YtabehgggahnopaaLayD
import Derived.Test.YtabehgggahnopaaElem
import Derived.Test.YtabehgggahnopaaTake
import Derived.Deep.QuietTactic
import Derived.BigQuiet
namespace Go.Proofs.Ytabehgggahnopaa
open Go.RowKit
set_option linter.unusedVariables false

set_option maxRecDepth 100000 in
set_option maxHeartbeats 1000000 in
theorem equalTok_any (A A' : Option Addr) (xs ys : List Tok) (n n' c c' : Nat) (S S' : Nat → Prop) (w : World) (hn : n = xs.length) (hn' : n' = ys.length) (hm : xs.length ≤ 9223372036854775807) (hm' : ys.length ≤ 9223372036854775807) (hA : Els w S xs A) (hA' : Els w S' ys A') :
    Calls Try.prog 9 #[.slice A n c, .slice A' n' c'] w fun e w' => e = .returned (.bool (decide (xs = ys))) ∧ Below w.heap.size w w' := by
  subst hn; subst hn'
  by_cases hl : xs.length = ys.length
  · have hl' : ((xs.length : Int) != (ys.length : Int)) = false := by simp; omega
    have HL := Lib.hid hl
    clear hl
    go_enter Try.func9, Try.ntmps9
    go_wp2
    go_loopw [13] (fun i wr => ∃ k : Nat, k ≤ xs.length ∧ i = .int .i64 k ∧ Hid (xs.take k = ys.take k) ∧ Below w.heap.size w wr) (fun i _ => xs.length - (intOf i).toNat)
    case atStart => exact ⟨0, Nat.zero_le _, rfl, Lib.hid rfl, Below.refl _ _⟩
    case round =>
      obtain ⟨wo, hwo⟩ : ∃ wo : World, wo = wr := ⟨_, rfl⟩
      subst hwo
      obtain ⟨k, hk, rfl, HT, hb⟩ := hrel
      have HB := Lib.hid hb
      clear hb
      by_cases hlt : k < xs.length
      · have hlt' : k < ys.length := by have := HL.out; omega
        have hk1 : (k : Int) < (xs.length : Int) := by omega
        have hk2 : (k : Int) < (ys.length : Int) := by omega
        obtain ⟨x, hx⟩ := get_some hlt
        obtain ⟨y, hy⟩ := get_some hlt'
        obtain ⟨b, o, rfl, _, hbs, hi, hi2, hi3, hc0, hc1, hc2, hc2'⟩ := (hA.below HB.out).tok hx
        obtain ⟨b', o', rfl, _, hbs', hi', hi2', hi3', hc0', hc1', hd2, hd2'⟩ := (hA'.below HB.out).tok hy
        have HX := Lib.hid (And.intro hx hy)
        have hk0 : (0 : Int) ≤ (k : Int) := by omega
        clear hx hy hi hi2 hi3 hi' hi2' hi3'
        obtain ⟨x0, x1, x2⟩ := x
        obtain ⟨y0, y1, y2⟩ := y
        dsimp only at *
        by_cases hz0 : x0 = y0
        · subst hz0
          by_cases hz1 : x1 = y1
          · subst hz1
            by_cases hz2 : x2 = y2
            · subst hz2
              have HE := Lib.hid (take_eq HX.out.1 HX.out.2 rfl HT.out)
              go_wp2_with fail
              go_quiet (fail)
              go_wp2
              go_roundw
              case rel => exact ⟨k + 1, hlt, by go_num, HE, bdrewN HB.out⟩
              case measure => simp [intOf]; omega
            · have HE := Lib.hid (take_ne HX.out.1 HX.out.2 (fun h => hz2 (by injection h)))
              have hq : (x2 == y2) = false := by simp [hz2]
              clear hz2
              go_wp2_with fail
              go_quiet (fail)
              go_wp2
              go_ret
              exact ⟨ret_bool (by simp [HE.out]), bdrewN HB.out⟩
          · have HE := Lib.hid (take_ne HX.out.1 HX.out.2 (fun h => hz1 (by injection h)))
            have hq : (x1 == y1) = false := by simp [hz1]
            clear hz1
            go_wp2_with fail
            go_quiet (fail)
            go_wp2
            go_ret
            exact ⟨ret_bool (by simp [HE.out]), bdrewN HB.out⟩
        · have HE := Lib.hid (take_ne HX.out.1 HX.out.2 (fun h => hz0 (by injection h)))
          have hq : (x0 == y0) = false := by simp [hz0]
          clear hz0
          go_wp2_with fail
          go_quiet (fail)
          go_wp2
          go_ret
          exact ⟨ret_bool (by simp [HE.out]), bdrewN HB.out⟩
      · have HE := Lib.hid (take_all HL.out (by omega) HT.out)
        go_wp2
        go_ret
        exact ⟨ret_bool (by simp [HE.out]), HB.out⟩
  · have hl' : ((xs.length : Int) != (ys.length : Int)) = true := by simp; omega
    have HE : Hid (xs ≠ ys) := Lib.hid (by rintro rfl; exact hl rfl)
    clear hl
    go_enter Try.func9, Try.ntmps9
    go_wp2
    go_ret
    exact ⟨ret_bool (by simp [HE.out]), Below.refl _ _⟩

end Go.Proofs.Ytabehgggahnopaa
