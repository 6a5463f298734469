/- Contract: slices.swapRangeCmpFunc at packs: a permutation. -/
import Derived.Test.YtnlpeiffbnlncaaDoorQp2
namespace Go.Proofs.YtnlpeiffbnlncaaDoor
open Go.RowKit
set_option linter.unusedVariables false

set_option maxRecDepth 100000 in
set_option maxHeartbeats 4000000 in
theorem swapRange_any (w : World) (ps : List PkV) (g cap a b n : Nat) (f : Value) (hN : ps.length < 4611686018427387904) (hR : RowF w g ps) (ha : a + n ≤ ps.length) (hb : b + n ≤ ps.length) (hab : a + n ≤ b) :
    Calls Tryd.prog 149 #[.slice (some ⟨g, 0, none⟩) ps.length cap, .int .i64 a, .int .i64 b, .int .i64 n, f] w (RetPm w g ps) := by
  have HR := Lib.hid hR
  clear hR
  go_enter Tryd.func149, Tryd.ntmps149
  go_wp2_with fail
  go_loopw [10] (fun v wr => ∃ (i : Nat) (qs : List PkV), i ≤ n ∧ v = .int .i64 i ∧ RowF wr g qs ∧ qs.Perm ps ∧ Kept (fun b => b = g) w wr) (fun v _ => n - (intOf v).toNat)
  case atStart => exact ⟨0, ps, Nat.zero_le _, rfl, HR.out, List.Perm.refl _, Kept.refl _ _⟩
  case round =>
    obtain ⟨wo, hwo⟩ : ∃ wo : World, wo = wr := ⟨_, rfl⟩
    subst hwo
    obtain ⟨i, qs, hin, rfl, hRo, hPo, hKo⟩ := hrel
    have hql := hPo.length_eq
    by_cases hlt : i < n
    · have hlt' : (i : Int) < (n : Int) := by omega
      obtain ⟨p, hp⟩ := get_some (show a + i < qs.length by omega)
      obtain ⟨q, hq⟩ := get_some (show b + i < qs.length by omega)
      have p0 := hRo.cell0 hp
      have p1 := hRo.cell1 hp
      have q0 := hRo.cell0 hq
      have q1 := hRo.cell1 hq
      have p0f := hRo.frozen ((a + i) * 2)
      have p1f := hRo.frozen ((a + i) * 2 + 1)
      have q0f := hRo.frozen ((b + i) * 2)
      have q1f := hRo.frozen ((b + i) * 2 + 1)
      have hw1 : IntKind.i64.wrap ((a : Int) + (i : Int)) = ((a + i : Nat) : Int) := by rw [← Int.natCast_add]; exact IntWalk.i64_in _ (by omega)
      have hw2 : IntKind.i64.wrap ((b : Int) + (i : Int)) = ((b + i : Nat) : Int) := by rw [← Int.natCast_add]; exact IntWalk.i64_in _ (by omega)
      have hw3 : IntKind.i64.wrap ((i : Int) + 1) = ((i + 1 : Nat) : Int) := IntWalk.i64_in _ (by omega)
      have h1 : (0 : Int) ≤ ((a + i : Nat) : Int) := by omega
      have h2 : ((a + i : Nat) : Int) < (ps.length : Int) := by omega
      have h3 : (0 : Int) ≤ ((b + i : Nat) : Int) := by omega
      have h4 : ((b + i : Nat) : Int) < (ps.length : Int) := by omega
      have hAB : a + i < b + i := by omega
      have HX := Lib.hid (show RowF ((((wo.setCell ⟨g, (a + i) * 2, none⟩ (.int .i64 q.r)).setCell ⟨g, (a + i) * 2 + 1, none⟩ (.slice q.a q.n q.c)).setCell ⟨g, (b + i) * 2, none⟩ (.int .i64 p.r)).setCell ⟨g, (b + i) * 2 + 1, none⟩ (.slice p.a p.n p.c)) g ((qs.set (a + i) q).set (b + i) p) ∧ ((qs.set (a + i) q).set (b + i) p).Perm ps ∧ Kept (fun b => b = g) w wo from
        ⟨(hRo.set_ _ q).set_ _ p, (fswap_perm hp hq).trans hPo, hKo⟩)
      generalize hA : a + i = A at *
      generalize hB : b + i = B at *
      have e1 : ¬ A = B := by omega
      have e2 : ¬ B = A := by omega
      have e3 : ¬ A * 2 = B * 2 := by omega
      have e4 : ¬ B * 2 = A * 2 := by omega
      have e5 : ¬ A * 2 = B * 2 + 1 := by omega
      have e6 : ¬ B * 2 = A * 2 + 1 := by omega
      have e7 : ¬ A * 2 + 1 = B * 2 := by omega
      have e8 : ¬ B * 2 + 1 = A * 2 := by omega
      clear hRo hPo hKo hp hq hAB
      go_wp2_with fail
      go_region
      go_wp2_with fail
      go_roundw
      case rel => exact ⟨i + 1, _, hlt, by go_num, HX.out.1.below ((Below.refl _ _).drew), HX.out.2.1, (pair_kept (pair_kept HX.out.2.2)).drew⟩
      case measure => simp [intOf]; omega
    · have hlt' : ¬ (i : Int) < (n : Int) := by omega
      have HO := Lib.hid (And.intro hRo (And.intro hPo hKo))
      clear hRo hPo hKo
      go_wp2_with fail
      go_end0
      exact ⟨rfl, qs, HO.out⟩
end Go.Proofs.YtnlpeiffbnlncaaDoor
