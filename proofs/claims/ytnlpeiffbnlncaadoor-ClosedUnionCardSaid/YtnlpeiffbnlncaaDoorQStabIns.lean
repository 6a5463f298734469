/- Contract: slices.insertionSortCmpFunc at packs with core.Build$1: a permutation. -/
import Derived.Test.YtnlpeiffbnlncaaDoorQw1
namespace Go.Proofs.YtnlpeiffbnlncaaDoor
open Go.RowKit
set_option linter.unusedVariables false

set_option maxRecDepth 100000 in
set_option maxHeartbeats 1000000 in
theorem insF_any (w : World) (ps : List PkV) (g cap a b : Nat) (hN : ps.length < 4611686018427387904) (hR : RowF w g ps) (hC : CmpOk w g ps) (ha : a ≤ b) (hb : b ≤ ps.length) :
    Calls Tryd.prog 140 #[.slice (some ⟨g, 0, none⟩) ps.length cap, .int .i64 a, .int .i64 b, .func (.func 103) #[] #[]] w (RetPm w g ps) := by
  have HR := Lib.hid hR
  have HCm := Lib.hid hC
  clear hR hC
  have hw0 : IntKind.i64.wrap ((a : Int) + 1) = ((a + 1 : Nat) : Int) := IntWalk.i64_in _ (by omega)
  go_enter Tryd.func140, Tryd.ntmps140
  go_wp2_with fail
  go_loopw [8] (fun v wr => ∃ (i : Nat) (qs : List PkV), a + 1 ≤ i ∧ i ≤ b + 1 ∧ v = .int .i64 i ∧ RowF wr g qs ∧ qs.Perm ps ∧ Kept (fun b => b = g) w wr) (fun v _ => b + 1 - (intOf v).toNat)
  case atStart => exact ⟨a + 1, ps, Nat.le_refl _, by omega, by go_num, HR.out, List.Perm.refl _, Kept.refl _ _⟩
  case round =>
    obtain ⟨wo, hwo⟩ : ∃ wo : World, wo = wr := ⟨_, rfl⟩
    subst hwo
    obtain ⟨i, qs, hi1, hib, rfl, hRo, hPo, hKo⟩ := hrel
    have HO := Lib.hid (And.intro hRo (And.intro hPo hKo))
    clear hRo hPo hKo
    by_cases hlt : i < b
    · have hlt' : (i : Int) < (b : Int) := by omega
      have hwi : IntKind.i64.wrap ((i : Int) + 1) = ((i + 1 : Nat) : Int) := IntWalk.i64_in _ (by omega)
      go_wp2_with fail
      go_loopw [9] (fun v wr => ∃ (j : Nat) (zs : List PkV), a ≤ j ∧ j ≤ i ∧ v = .int .i64 j ∧ RowF wr g zs ∧ zs.Perm ps ∧ Kept (fun b => b = g) w wr) (fun v _ => (intOf v).toNat)
      case atStart => exact ⟨i, qs, by omega, Nat.le_refl _, rfl, HO.out⟩
      case round =>
        obtain ⟨wp, hwp⟩ : ∃ wp : World, wp = wr := ⟨_, rfl⟩
        subst hwp
        obtain ⟨j, zs, hja, hji, rfl, hRp, hPp, hKp⟩ := hrel
        have HP := Lib.hid (And.intro hRp (And.intro hPp hKp))
        have hzl : zs.length = ps.length := hPp.length_eq
        clear hPp hKp
        by_cases hj : j = a
        · subst hj
          clear hRp
          go_wp2_with fail
          refine wp_region_noPanic ?_
          refine wp_region_held_drew (S := (fun w' => True)) (by kernel_rfl) ?ha (fun hHeld => ?ba)
          case ha => trivial
          refine take_run (i := 0) (v := ?va0) rfl (by kernel_rfl) (by kernel_rfl) (by kernel_rfl) (fun _ _ _ h => h) (by rfl) ?ya0 (by assumption) ?ra0
          case ya0 => (intro w hSw; (try dsimp only at hSw); go_simp; try with_reducible rfl)
          try simp only [Act.put, List.setIfInBounds_toArray, List.set_cons_zero, List.set_cons_succ]
          refine take_run (i := 1) (v := ?va1) rfl (by kernel_rfl) (by kernel_rfl) (by kernel_rfl) (fun _ _ _ h => h) (by rfl) ?ya1 (by assumption) ?ra1
          case ya1 => (intro w hSw; (try dsimp only at hSw); go_simp; try with_reducible rfl)
          try simp only [Act.put, List.setIfInBounds_toArray, List.set_cons_zero, List.set_cons_succ]
          refine take_run (i := 2) (v := .bool false) rfl (by kernel_rfl) (by kernel_rfl) (by kernel_rfl) (fun _ _ _ h => h) (by rfl) ?ya2 (by assumption) ?ra2
          case ya2 => (intro w hSw; (try dsimp only at hSw); try go_simp; first | done | omega | (simp []; done) | trace_state)
          try simp only [Act.put, List.setIfInBounds_toArray, List.set_cons_zero, List.set_cons_succ]
          refine take_run (i := 3) (v := ?va3) rfl (by kernel_rfl) (by kernel_rfl) (by kernel_rfl) (fun _ _ _ h => h) (by rfl) ?ya3 (by assumption) ?ra3
          case ya3 => (intro w hSw; (try dsimp only at hSw); go_simp; try with_reducible rfl)
          try simp only [Act.put, List.setIfInBounds_toArray, List.set_cons_zero, List.set_cons_succ]
          refine take_bar (i := 4) rfl (by kernel_rfl) (by kernel_rfl) (by kernel_rfl) (fun _ _ _ h => h) (by rfl) (by assumption) ?_
          try simp only [Act.put, List.setIfInBounds_toArray, List.set_cons_zero, List.set_cons_succ]
          refine take_bar (i := 5) rfl (by kernel_rfl) (by kernel_rfl) (by kernel_rfl) (fun _ _ _ h => h) (by rfl) (by assumption) ?_
          try simp only [Act.put, List.setIfInBounds_toArray, List.set_cons_zero, List.set_cons_succ]
          refine take_bar (i := 6) rfl (by kernel_rfl) (by kernel_rfl) (by kernel_rfl) (fun _ _ _ h => h) (by rfl) (by assumption) ?_
          try simp only [Act.put, List.setIfInBounds_toArray, List.set_cons_zero, List.set_cons_succ]
          refine take_bar (i := 7) rfl (by kernel_rfl) (by kernel_rfl) (by kernel_rfl) (fun _ _ _ h => h) (by rfl) (by assumption) ?_
          try simp only [Act.put, List.setIfInBounds_toArray, List.set_cons_zero, List.set_cons_succ]
          refine take_bar (i := 8) rfl (by kernel_rfl) (by kernel_rfl) (by kernel_rfl) (fun _ _ _ h => h) (by rfl) (by assumption) ?_
          try simp only [Act.put, List.setIfInBounds_toArray, List.set_cons_zero, List.set_cons_succ]
          refine take_bar (i := 9) rfl (by kernel_rfl) (by kernel_rfl) (by kernel_rfl) (fun _ _ _ h => h) (by rfl) (by assumption) ?_
          try simp only [Act.put, List.setIfInBounds_toArray, List.set_cons_zero, List.set_cons_succ]
          refine take_bar (i := 10) rfl (by kernel_rfl) (by kernel_rfl) (by kernel_rfl) (fun _ _ _ h => h) (by rfl) (by assumption) ?_
          try simp only [Act.put, List.setIfInBounds_toArray, List.set_cons_zero, List.set_cons_succ]
          refine take_bar (i := 11) rfl (by kernel_rfl) (by kernel_rfl) (by kernel_rfl) (fun _ _ _ h => h) (by rfl) (by assumption) ?_
          try simp only [Act.put, List.setIfInBounds_toArray, List.set_cons_zero, List.set_cons_succ]
          refine take_bar (i := 12) rfl (by kernel_rfl) (by kernel_rfl) (by kernel_rfl) (fun _ _ _ h => h) (by rfl) (by assumption) ?_
          try simp only [Act.put, List.setIfInBounds_toArray, List.set_cons_zero, List.set_cons_succ]
          refine take_bar (i := 13) rfl (by kernel_rfl) (by kernel_rfl) (by kernel_rfl) (fun _ _ _ h => h) (by rfl) (by assumption) ?_
          try simp only [Act.put, List.setIfInBounds_toArray, List.set_cons_zero, List.set_cons_succ]
          refine take_bar (i := 14) rfl (by kernel_rfl) (by kernel_rfl) (by kernel_rfl) (fun _ _ _ h => h) (by rfl) (by assumption) ?_
          try simp only [Act.put, List.setIfInBounds_toArray, List.set_cons_zero, List.set_cons_succ]
          refine take_bar (i := 15) rfl (by kernel_rfl) (by kernel_rfl) (by kernel_rfl) (fun _ _ _ h => h) (by rfl) (by assumption) ?_
          try simp only [Act.put, List.setIfInBounds_toArray, List.set_cons_zero, List.set_cons_succ]
          refine take_run (i := 16) (v := ?va16) rfl (by kernel_rfl) (by kernel_rfl) (by kernel_rfl) (fun _ _ _ h => h) (by rfl) ?ya16 (by assumption) ?ra16
          case ya16 => (intro w hSw; (try dsimp only at hSw); go_simp; try with_reducible rfl)
          try simp only [Act.put, List.setIfInBounds_toArray, List.set_cons_zero, List.set_cons_succ]
          refine wpAnyH_done (by kernel_rfl) ?_ _
          refine NoPanic.normal ?_
          go_wp2_with fail
          go_roundw
          case rel => exact ⟨i + 1, zs, by omega, by omega, by go_num, HP.out.1.below ((Below.refl _ _).drew), HP.out.2.1, HP.out.2.2.drew⟩
          case measure => simp [intOf]; omega
        · obtain ⟨p, hp⟩ := get_some (show j < zs.length by omega)
          obtain ⟨l, hl⟩ : ∃ l : Nat, l = j - 1 := ⟨_, rfl⟩
          obtain ⟨q, hq⟩ := get_some (show l < zs.length by omega)
          have p0 := hRp.cell0 hp
          have p1 := hRp.cell1 hp
          have q0 := hRp.cell0 hq
          have q1 := hRp.cell1 hq
          have hjw : IntKind.i64.wrap ((j : Int) - 1) = (l : Int) := by rw [show (j : Int) - 1 = (l : Int) by omega]; exact IntWalk.i64_in _ (by omega)
          have hj0 : (0 : Int) ≤ (j : Int) := by omega
          have hj1 : (j : Int) < (ps.length : Int) := by omega
          have hj2 : (0 : Int) ≤ (l : Int) := by omega
          have hj3 : (l : Int) < (ps.length : Int) := by omega
          have hj5 : (a : Int) < (j : Int) := by omega
          have hd1 : decide ((a : Int) < (j : Int)) = true := by simp; omega
          have zg : g < wp.heap.size := hRp.lt
          have HC := Lib.hid (HCm.out p (HP.out.2.1.subset (List.mem_of_getElem? hp)) q (HP.out.2.1.subset (List.mem_of_getElem? hq)) wp.drew HP.out.2.2.drew)
          have HS := Lib.hid (show ∀ W : World, RowF W g zs → RowF ((((W.setCell ⟨g, j * 2, none⟩ (.int .i64 q.r)).setCell ⟨g, j * 2 + 1, none⟩ (.slice q.a q.n q.c)).setCell ⟨g, l * 2, none⟩ (.int .i64 p.r)).setCell ⟨g, l * 2 + 1, none⟩ (.slice p.a p.n p.c)) g ((zs.set j q).set l p) ∧ ((zs.set j q).set l p).Perm ps from
            fun W h => ⟨(h.set_ _ q).set_ _ p, (fswap_perm hp hq).trans HP.out.2.1⟩)
          have e1 : ¬ j = l := by omega
          have e2 : ¬ l = j := by omega
          have e3 : ¬ j * 2 = l * 2 := by omega
          have e4 : ¬ l * 2 = j * 2 := by omega
          have e5 : ¬ j * 2 = l * 2 + 1 := by omega
          have e6 : ¬ l * 2 = j * 2 + 1 := by omega
          have e7 : ¬ j * 2 + 1 = l * 2 := by omega
          have e8 : ¬ l * 2 + 1 = j * 2 := by omega
          have hlj : a ≤ l ∧ l ≤ i ∧ l < j := by omega
          clear hp hq hRp hl
          go_wp2_with fail
          refine wp_region_noPanic ?_
          refine wp_region_held_drew (S := (fun w' => w'.cell? ⟨g, j * 2, none⟩ = some (.int .i64 p.r) ∧ w'.cell? ⟨g, j * 2 + 1, none⟩ = some (.slice p.a p.n p.c) ∧ w'.cell? ⟨g, l * 2, none⟩ = some (.int .i64 q.r) ∧ w'.cell? ⟨g, l * 2 + 1, none⟩ = some (.slice q.a q.n q.c))) (by kernel_rfl) ?hb (fun hHeld => ?bb)
          case hb => ((try dsimp only); go_keep)
          refine take_run (i := 0) (v := ?vb0) rfl (by kernel_rfl) (by kernel_rfl) (by kernel_rfl) (fun _ _ _ h => h) (by rfl) ?yb0 (by assumption) ?rb0
          case yb0 => (intro w hSw; (try dsimp only at hSw); go_simp; try with_reducible rfl)
          try simp only [Act.put, List.setIfInBounds_toArray, List.set_cons_zero, List.set_cons_succ]
          refine take_run (i := 1) (v := ?vb1) rfl (by kernel_rfl) (by kernel_rfl) (by kernel_rfl) (fun _ _ _ h => h) (by rfl) ?yb1 (by assumption) ?rb1
          case yb1 => (intro w hSw; (try dsimp only at hSw); go_simp; try with_reducible rfl)
          try simp only [Act.put, List.setIfInBounds_toArray, List.set_cons_zero, List.set_cons_succ]
          refine take_run (i := 2) (v := .bool true) rfl (by kernel_rfl) (by kernel_rfl) (by kernel_rfl) (fun _ _ _ h => h) (by rfl) ?yb2 (by assumption) ?rb2
          case yb2 => (intro w hSw; (try dsimp only at hSw); try go_simp; first | done | omega | (simp [hd1]; done) | trace_state)
          try simp only [Act.put, List.setIfInBounds_toArray, List.set_cons_zero, List.set_cons_succ]
          refine take_run (i := 3) (v := ?vb3) rfl (by kernel_rfl) (by kernel_rfl) (by kernel_rfl) (fun _ _ _ h => h) (by rfl) ?yb3 (by assumption) ?rb3
          case yb3 => (intro w hSw; (try dsimp only at hSw); go_simp; try with_reducible rfl)
          try simp only [Act.put, List.setIfInBounds_toArray, List.set_cons_zero, List.set_cons_succ]
          refine take_run (i := 4) (v := ?vb4) rfl (by kernel_rfl) (by kernel_rfl) (by kernel_rfl) (fun _ _ _ h => h) (by rfl) ?yb4 (by assumption) ?rb4
          case yb4 => (intro w hSw; (try dsimp only at hSw); go_simp; try with_reducible rfl)
          try simp only [Act.put, List.setIfInBounds_toArray, List.set_cons_zero, List.set_cons_succ]
          refine take_run (i := 5) (v := ?vb5) rfl (by kernel_rfl) (by kernel_rfl) (by kernel_rfl) (fun _ _ _ h => h) (by rfl) ?yb5 (by assumption) ?rb5
          case yb5 => (intro w hSw; (try dsimp only at hSw); go_simp; try with_reducible rfl)
          try simp only [Act.put, List.setIfInBounds_toArray, List.set_cons_zero, List.set_cons_succ]
          refine take_run (i := 6) (v := ?vb6) rfl (by kernel_rfl) (by kernel_rfl) (by kernel_rfl) (fun _ _ _ h => h) (by rfl) ?yb6 (by assumption) ?rb6
          case yb6 => (intro w hSw; (try dsimp only at hSw); go_simp; try with_reducible rfl)
          try simp only [Act.put, List.setIfInBounds_toArray, List.set_cons_zero, List.set_cons_succ]
          refine take_run (i := 7) (v := ?vb7) rfl (by kernel_rfl) (by kernel_rfl) (by kernel_rfl) (fun _ _ _ h => h) (by rfl) ?yb7 (by assumption) ?rb7
          case yb7 => (intro w hSw; (try dsimp only at hSw); go_simp; try with_reducible rfl)
          try simp only [Act.put, List.setIfInBounds_toArray, List.set_cons_zero, List.set_cons_succ]
          refine take_run (i := 8) (v := ?vb8) rfl (by kernel_rfl) (by kernel_rfl) (by kernel_rfl) (fun _ _ _ h => h) (by rfl) ?yb8 (by assumption) ?rb8
          case yb8 => (intro w hSw; (try dsimp only at hSw); go_simp; try with_reducible rfl)
          try simp only [Act.put, List.setIfInBounds_toArray, List.set_cons_zero, List.set_cons_succ]
          refine take_run (i := 9) (v := ?vb9) rfl (by kernel_rfl) (by kernel_rfl) (by kernel_rfl) (fun _ _ _ h => h) (by rfl) ?yb9 (by assumption) ?rb9
          case yb9 => (intro w hSw; (try dsimp only at hSw); go_simp; try with_reducible rfl)
          try simp only [Act.put, List.setIfInBounds_toArray, List.set_cons_zero, List.set_cons_succ]
          refine take_run (i := 10) (v := ?vb10) rfl (by kernel_rfl) (by kernel_rfl) (by kernel_rfl) (fun _ _ _ h => h) (by rfl) ?yb10 (by assumption) ?rb10
          case yb10 => (intro w hSw; (try dsimp only at hSw); go_simp; try with_reducible rfl)
          try simp only [Act.put, List.setIfInBounds_toArray, List.set_cons_zero, List.set_cons_succ]
          refine take_run (i := 11) (v := ?vb11) rfl (by kernel_rfl) (by kernel_rfl) (by kernel_rfl) (fun _ _ _ h => h) (by rfl) ?yb11 (by assumption) ?rb11
          case yb11 => (intro w hSw; (try dsimp only at hSw); go_simp; try with_reducible rfl)
          try simp only [Act.put, List.setIfInBounds_toArray, List.set_cons_zero, List.set_cons_succ]
          refine take_run (i := 12) (v := ?vb12) rfl (by kernel_rfl) (by kernel_rfl) (by kernel_rfl) (fun _ _ _ h => h) (by rfl) ?yb12 (by assumption) ?rb12
          case yb12 => (intro w hSw; (try dsimp only at hSw); go_simp; try with_reducible rfl)
          try simp only [Act.put, List.setIfInBounds_toArray, List.set_cons_zero, List.set_cons_succ]
          refine take_run (i := 13) (v := ?vb13) rfl (by kernel_rfl) (by kernel_rfl) (by kernel_rfl) (fun _ _ _ h => h) (by rfl) ?yb13 (by assumption) ?rb13
          case yb13 => (intro w hSw; (try dsimp only at hSw); go_simp; try with_reducible rfl)
          try simp only [Act.put, List.setIfInBounds_toArray, List.set_cons_zero, List.set_cons_succ]
          refine take_call (i := 14) rfl (by kernel_rfl) (by rfl) (fun Kq hK => ?_)
          go_simp
          go_at_call 103
          refine HC.out.mono ?_
          rintro e w1 ⟨⟨k, rfl⟩, hb1⟩
          have HB1 := Lib.hid (bundrew hb1)
          have n0 := (HB1.out.cell (p := ⟨g, j * 2, none⟩) zg).trans p0
          have n1 := (HB1.out.cell (p := ⟨g, j * 2 + 1, none⟩) zg).trans p1
          have n2 := (HB1.out.cell (p := ⟨g, l * 2, none⟩) zg).trans q0
          have n3 := (HB1.out.cell (p := ⟨g, l * 2 + 1, none⟩) zg).trans q1
          clear hb1
          refine hK.out _ _ ?hb14 (fun hHeld => ?rb14)
          case hb14 => ((try dsimp only); go_keep)
          clear hK Kq
          try simp only [Act.put, List.setIfInBounds_toArray, List.set_cons_zero, List.set_cons_succ]
          refine take_run (i := 15) (v := ?vb15) rfl (by kernel_rfl) (by kernel_rfl) (by kernel_rfl) (fun _ _ _ h => h) (by rfl) ?yb15 (by assumption) ?rb15
          case yb15 => (intro w hSw; (try dsimp only at hSw); go_simp; try with_reducible rfl)
          try simp only [Act.put, List.setIfInBounds_toArray, List.set_cons_zero, List.set_cons_succ]
          refine take_run (i := 16) (v := ?vb16) rfl (by kernel_rfl) (by kernel_rfl) (by kernel_rfl) (fun _ _ _ h => h) (by rfl) ?yb16 (by assumption) ?rb16
          case yb16 => (intro w hSw; (try dsimp only at hSw); go_simp; try with_reducible rfl)
          try simp only [Act.put, List.setIfInBounds_toArray, List.set_cons_zero, List.set_cons_succ]
          refine wpAnyH_done (by kernel_rfl) ?_ _
          refine NoPanic.normal ?_
          have hR1 := HP.out.1.below HB1.out
          have HR1 := Lib.hid hR1
          by_cases hc1 : k < 0
          · have p0f := hR1.frozen (j * 2)
            have p1f := hR1.frozen (j * 2 + 1)
            have q0f := hR1.frozen (l * 2)
            have q1f := hR1.frozen (l * 2 + 1)
            clear hR1 p0 p1 q0 q1
            go_wp2_with fail
            go_region
            go_wp2_with fail
            go_roundw
            case rel => exact ⟨l, _, hlj.1, hlj.2.1, rfl, (HS.out _ HR1.out).1.below ((Below.refl _ _).drew), (HS.out _ HR1.out).2, (pair_kept (pair_kept (HP.out.2.2.below HB1.out))).drew⟩
            case measure => simp [intOf]; omega
          · clear hR1 p0 p1 q0 q1
            go_wp2_with fail
            go_roundw
            case rel => exact ⟨i + 1, zs, by omega, by omega, by go_num, HR1.out, HP.out.2.1, HP.out.2.2.below HB1.out⟩
            case measure => simp [intOf]; omega
    · have hlt' : ¬ (i : Int) < (b : Int) := by omega
      go_wp2_with fail
      go_end0
      exact ⟨rfl, qs, HO.out⟩
end Go.Proofs.YtnlpeiffbnlncaaDoor
