/- Contract: slices.rotateCmpFunc at packs: a permutation. -/
import Derived.Test.YtnlpeiffbnlncaaDoorQStabSwap
namespace Go.Proofs.YtnlpeiffbnlncaaDoor
open Go.RowKit
set_option linter.unusedVariables false

set_option maxRecDepth 100000 in
set_option maxHeartbeats 1000000 in
theorem rotate_any (w : World) (ps : List PkV) (g cap a m b : Nat) (f : Value) (hN : ps.length < 4611686018427387904) (hR : RowF w g ps) (ham : a < m) (hmb : m < b) (hb : b ≤ ps.length) :
    Calls Tryd.prog 147 #[.slice (some ⟨g, 0, none⟩) ps.length cap, .int .i64 a, .int .i64 m, .int .i64 b, f] w (RetPm w g ps) := by
  have HR := Lib.hid hR
  clear hR
  have hw0 : IntKind.i64.wrap ((m : Int) - (a : Int)) = ((m - a : Nat) : Int) := by rw [← Int.natCast_sub (by omega)]; exact IntWalk.i64_in _ (by omega)
  have hw1 : IntKind.i64.wrap ((b : Int) - (m : Int)) = ((b - m : Nat) : Int) := by rw [← Int.natCast_sub (by omega)]; exact IntWalk.i64_in _ (by omega)
  go_enter Tryd.func147, Tryd.ntmps147
  go_wp2_with fail
  go_loopw [10, 11] (fun v u wr => ∃ (i j : Nat) (qs : List PkV), 0 < i ∧ i ≤ m - a ∧ 0 < j ∧ j ≤ b - m ∧ v = .int .i64 i ∧ u = .int .i64 j ∧ RowF wr g qs ∧ qs.Perm ps ∧ Kept (fun b => b = g) w wr) (fun v u _ => (intOf v).toNat + (intOf u).toNat)
  case atStart => exact ⟨m - a, b - m, ps, by omega, Nat.le_refl _, by omega, Nat.le_refl _, rfl, rfl, HR.out, List.Perm.refl _, Kept.refl _ _⟩
  case round =>
    obtain ⟨wo, hwo⟩ : ∃ wo : World, wo = wr := ⟨_, rfl⟩
    subst hwo
    obtain ⟨i, j, qs, hi0, hi1, hj0, hj1, rfl, rfl, hRo, hPo, hKo⟩ := hrel
    have hql := hPo.length_eq
    have HO := Lib.hid (And.intro hRo (And.intro hPo hKo))
    have hwi : IntKind.i64.wrap ((m : Int) - (i : Int)) = ((m - i : Nat) : Int) := by rw [← Int.natCast_sub (by omega)]; exact IntWalk.i64_in _ (by omega)
    clear hRo hPo hKo
    by_cases hij : i = j
    · subst hij
      have HC := Lib.hid (swapRange_any wo qs g cap (m - i) m i f (by omega) HO.out.1 (by omega) (by omega) (by omega))
      rw [hql] at HC
      go_wp2_with fail
      refine HC.out.mono ?_
      rintro e w1 ⟨rfl, rs, h1, h2, h3⟩
      have HE := Lib.hid (And.intro h1 (And.intro (h2.trans HO.out.2.1) (HO.out.2.2.trans h3)))
      clear h1 h2 h3
      go_wp2_with fail
      go_end0
      exact ⟨rfl, rs, HE.out⟩
    · have hij' : ¬ (i : Int) = (j : Int) := by omega
      by_cases hgt : j < i
      · have hgt' : (j : Int) < (i : Int) := by omega
        have hws : IntKind.i64.wrap ((i : Int) - (j : Int)) = ((i - j : Nat) : Int) := by rw [← Int.natCast_sub (by omega)]; exact IntWalk.i64_in _ (by omega)
        have HC := Lib.hid (swapRange_any wo qs g cap (m - i) m j f (by omega) HO.out.1 (by omega) (by omega) (by omega))
        rw [hql] at HC
        go_wp2_with fail
        refine HC.out.mono ?_
        rintro e w1 ⟨rfl, rs, h1, h2, h3⟩
        have HE := Lib.hid (And.intro h1 (And.intro (h2.trans HO.out.2.1) (HO.out.2.2.trans h3)))
        clear h1 h2 h3
        go_wp2_with fail
        go_roundw
        case rel => exact ⟨i - j, j, rs, by omega, by omega, hj0, hj1, by go_num, rfl, HE.out⟩
        case measure => simp [intOf]; omega
      · have hgt' : ¬ (j : Int) < (i : Int) := by omega
        have hws : IntKind.i64.wrap ((j : Int) - (i : Int)) = ((j - i : Nat) : Int) := by rw [← Int.natCast_sub (by omega)]; exact IntWalk.i64_in _ (by omega)
        obtain ⟨M, hM⟩ : ∃ M : Nat, M = m + j := ⟨_, rfl⟩
        obtain ⟨T, hT⟩ : ∃ T : Nat, T = M - i := ⟨_, rfl⟩
        have hwt : IntKind.i64.wrap ((m : Int) + (j : Int)) = (M : Int) := by rw [← Int.natCast_add, hM]; exact IntWalk.i64_in _ (by omega)
        have hwu : IntKind.i64.wrap ((M : Int) - (i : Int)) = (T : Int) := by rw [← Int.natCast_sub (by omega), hT]; exact IntWalk.i64_in _ (by omega)
        have HC := Lib.hid (swapRange_any wo qs g cap (m - i) T i f (by omega) HO.out.1 (by omega) (by omega) (by omega))
        rw [hql] at HC
        obtain ⟨d, hd⟩ : ∃ d : Nat, d = j - i := ⟨_, rfl⟩
        rw [← hd] at hws
        have hd2 : 0 < d ∧ d ≤ b - m ∧ d < j := by omega
        clear hM hT hd
        go_wp2_with fail
        refine HC.out.mono ?_
        rintro e w1 ⟨rfl, rs, h1, h2, h3⟩
        have HE := Lib.hid (And.intro h1 (And.intro (h2.trans HO.out.2.1) (HO.out.2.2.trans h3)))
        clear h1 h2 h3
        go_wp2_with fail
        go_roundw
        case rel => exact ⟨i, d, rs, hi0, hi1, hd2.1, hd2.2.1, rfl, rfl, HE.out⟩
        case measure => simp [intOf]; omega
end Go.Proofs.YtnlpeiffbnlncaaDoor
