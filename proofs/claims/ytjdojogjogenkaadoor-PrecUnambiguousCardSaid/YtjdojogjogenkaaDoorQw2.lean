/- Contracts of this proof, of several texts joined: StabIns, CmpInts, Bld1, CntL, ClimbT, ContInt, ClimbW, Brackets, ClimbD, WhereP, PrecCheck, PrecAdd, OperAt, Oper. -/
import Derived.Test.YtjdojogjogenkaaDoorQw1
import Derived.Test.YtjdojogjogenkaaDoorQp2
import Derived.Deep.Cut
import Derived.Deep.QuietTactic
import Derived.BigQuiet
import Derived.WalkLawsBesides
import Derived.Test.YtjdojogjogenkaaDoorQp1
import Derived.Maps.Own
import Derived.Recover
import Derived.Defers
import Derived.Laws.EntriesVeiled
import Derived.Deep.RegionLaw
import Derived.Deep.RegionHeld3
import Derived.Deep.DeepCutAuto
import Derived.IntWalk
/- Contract: slices.insertionSortCmpFunc at packs with core.Build$1: a permutation. -/
namespace Go.Proofs.YtjdojogjogenkaaDoor
open Go.RowKit
set_option linter.unusedVariables false

set_option maxRecDepth 100000 in
set_option maxHeartbeats 1000000 in
theorem insF_any (w : World) (ps : List PkV) (g cap a b : Nat) (hN : ps.length < 4611686018427387904) (hR : RowF w g ps) (hC : CmpOk w g ps) (ha : a ≤ b) (hb : b ≤ ps.length) :
    Calls Tryd.prog 180 #[.slice (some ⟨g, 0, none⟩) ps.length cap, .int .i64 a, .int .i64 b, .func (.func 132) #[] #[]] w (RetPm w g ps) := by
  have HR := Lib.hid hR
  have HCm := Lib.hid hC
  clear hR hC
  have hw0 : IntKind.i64.wrap ((a : Int) + 1) = ((a + 1 : Nat) : Int) := IntWalk.i64_in _ (by omega)
  go_enter Tryd.func180, Tryd.ntmps180
  go_wp2_with fail
  go_loopw [8] (fun v wr => ∃ (i : Nat) (qs : List PkV), a + 1 ≤ i ∧ i ≤ b + 1 ∧ v = .int .i64 i ∧ RowF wr g qs ∧ qs.Perm ps ∧ Kept (fun b => b = g) w wr) (fun v _ => b + 1 - (intOf v).toNat)
  case atStart => exact ⟨a + 1, ps, Nat.le_refl _, by omega, by go_num, HR.out, List.Perm.refl _, Kept.refl _ _⟩
  case round =>
    obtain ⟨wo, hwo⟩ : ∃ wo : World, wo = wr := ⟨_, rfl⟩
    subst hwo
    obtain ⟨i, qs, hi1, hib, rfl, hRo, hPo, hKo⟩ := hrel
    have HO := Lib.hid (And.intro hRo (And.intro hPo hKo))
    clear hRo hPo hKo
    by_cases hlt : i < b
    · have hlt' : (i : Int) < (b : Int) := by omega
      have hwi : IntKind.i64.wrap ((i : Int) + 1) = ((i + 1 : Nat) : Int) := IntWalk.i64_in _ (by omega)
      go_wp2_with fail
      go_loopw [9] (fun v wr => ∃ (j : Nat) (zs : List PkV), a ≤ j ∧ j ≤ i ∧ v = .int .i64 j ∧ RowF wr g zs ∧ zs.Perm ps ∧ Kept (fun b => b = g) w wr) (fun v _ => (intOf v).toNat)
      case atStart => exact ⟨i, qs, by omega, Nat.le_refl _, rfl, HO.out⟩
      case round =>
        obtain ⟨wp, hwp⟩ : ∃ wp : World, wp = wr := ⟨_, rfl⟩
        subst hwp
        obtain ⟨j, zs, hja, hji, rfl, hRp, hPp, hKp⟩ := hrel
        have HP := Lib.hid (And.intro hRp (And.intro hPp hKp))
        have hzl : zs.length = ps.length := hPp.length_eq
        clear hPp hKp
        by_cases hj : j = a
        · subst hj
          clear hRp
          go_wp2_with fail
          refine wp_region_noPanic ?_
          refine wp_region_held_drew (S := (fun w' => True)) (by kernel_rfl) ?ha (fun hHeld => ?ba)
          case ha => trivial
          refine take_run (i := 0) (v := ?va0) rfl (by kernel_rfl) (by kernel_rfl) (by kernel_rfl) (fun _ _ _ h => h) (by rfl) ?ya0 (by assumption) ?ra0
          case ya0 => (intro w hSw; (try dsimp only at hSw); go_simp; try with_reducible rfl)
          try simp only [Act.put, List.setIfInBounds_toArray, List.set_cons_zero, List.set_cons_succ]
          refine take_run (i := 1) (v := ?va1) rfl (by kernel_rfl) (by kernel_rfl) (by kernel_rfl) (fun _ _ _ h => h) (by rfl) ?ya1 (by assumption) ?ra1
          case ya1 => (intro w hSw; (try dsimp only at hSw); go_simp; try with_reducible rfl)
          try simp only [Act.put, List.setIfInBounds_toArray, List.set_cons_zero, List.set_cons_succ]
          refine take_run (i := 2) (v := .bool false) rfl (by kernel_rfl) (by kernel_rfl) (by kernel_rfl) (fun _ _ _ h => h) (by rfl) ?ya2 (by assumption) ?ra2
          case ya2 => (intro w hSw; (try dsimp only at hSw); try go_simp; first | done | omega | (simp []; done) | trace_state)
          try simp only [Act.put, List.setIfInBounds_toArray, List.set_cons_zero, List.set_cons_succ]
          refine take_run (i := 3) (v := ?va3) rfl (by kernel_rfl) (by kernel_rfl) (by kernel_rfl) (fun _ _ _ h => h) (by rfl) ?ya3 (by assumption) ?ra3
          case ya3 => (intro w hSw; (try dsimp only at hSw); go_simp; try with_reducible rfl)
          try simp only [Act.put, List.setIfInBounds_toArray, List.set_cons_zero, List.set_cons_succ]
          refine take_bar (i := 4) rfl (by kernel_rfl) (by kernel_rfl) (by kernel_rfl) (fun _ _ _ h => h) (by rfl) (by assumption) ?_
          try simp only [Act.put, List.setIfInBounds_toArray, List.set_cons_zero, List.set_cons_succ]
          refine take_bar (i := 5) rfl (by kernel_rfl) (by kernel_rfl) (by kernel_rfl) (fun _ _ _ h => h) (by rfl) (by assumption) ?_
          try simp only [Act.put, List.setIfInBounds_toArray, List.set_cons_zero, List.set_cons_succ]
          refine take_bar (i := 6) rfl (by kernel_rfl) (by kernel_rfl) (by kernel_rfl) (fun _ _ _ h => h) (by rfl) (by assumption) ?_
          try simp only [Act.put, List.setIfInBounds_toArray, List.set_cons_zero, List.set_cons_succ]
          refine take_bar (i := 7) rfl (by kernel_rfl) (by kernel_rfl) (by kernel_rfl) (fun _ _ _ h => h) (by rfl) (by assumption) ?_
          try simp only [Act.put, List.setIfInBounds_toArray, List.set_cons_zero, List.set_cons_succ]
          refine take_bar (i := 8) rfl (by kernel_rfl) (by kernel_rfl) (by kernel_rfl) (fun _ _ _ h => h) (by rfl) (by assumption) ?_
          try simp only [Act.put, List.setIfInBounds_toArray, List.set_cons_zero, List.set_cons_succ]
          refine take_bar (i := 9) rfl (by kernel_rfl) (by kernel_rfl) (by kernel_rfl) (fun _ _ _ h => h) (by rfl) (by assumption) ?_
          try simp only [Act.put, List.setIfInBounds_toArray, List.set_cons_zero, List.set_cons_succ]
          refine take_bar (i := 10) rfl (by kernel_rfl) (by kernel_rfl) (by kernel_rfl) (fun _ _ _ h => h) (by rfl) (by assumption) ?_
          try simp only [Act.put, List.setIfInBounds_toArray, List.set_cons_zero, List.set_cons_succ]
          refine take_bar (i := 11) rfl (by kernel_rfl) (by kernel_rfl) (by kernel_rfl) (fun _ _ _ h => h) (by rfl) (by assumption) ?_
          try simp only [Act.put, List.setIfInBounds_toArray, List.set_cons_zero, List.set_cons_succ]
          refine take_bar (i := 12) rfl (by kernel_rfl) (by kernel_rfl) (by kernel_rfl) (fun _ _ _ h => h) (by rfl) (by assumption) ?_
          try simp only [Act.put, List.setIfInBounds_toArray, List.set_cons_zero, List.set_cons_succ]
          refine take_bar (i := 13) rfl (by kernel_rfl) (by kernel_rfl) (by kernel_rfl) (fun _ _ _ h => h) (by rfl) (by assumption) ?_
          try simp only [Act.put, List.setIfInBounds_toArray, List.set_cons_zero, List.set_cons_succ]
          refine take_bar (i := 14) rfl (by kernel_rfl) (by kernel_rfl) (by kernel_rfl) (fun _ _ _ h => h) (by rfl) (by assumption) ?_
          try simp only [Act.put, List.setIfInBounds_toArray, List.set_cons_zero, List.set_cons_succ]
          refine take_bar (i := 15) rfl (by kernel_rfl) (by kernel_rfl) (by kernel_rfl) (fun _ _ _ h => h) (by rfl) (by assumption) ?_
          try simp only [Act.put, List.setIfInBounds_toArray, List.set_cons_zero, List.set_cons_succ]
          refine take_run (i := 16) (v := ?va16) rfl (by kernel_rfl) (by kernel_rfl) (by kernel_rfl) (fun _ _ _ h => h) (by rfl) ?ya16 (by assumption) ?ra16
          case ya16 => (intro w hSw; (try dsimp only at hSw); go_simp; try with_reducible rfl)
          try simp only [Act.put, List.setIfInBounds_toArray, List.set_cons_zero, List.set_cons_succ]
          refine wpAnyH_done (by kernel_rfl) ?_ _
          refine NoPanic.normal ?_
          go_wp2_with fail
          go_roundw
          case rel => exact ⟨i + 1, zs, by omega, by omega, by go_num, HP.out.1.below ((Below.refl _ _).drew), HP.out.2.1, HP.out.2.2.drew⟩
          case measure => simp [intOf]; omega
        · obtain ⟨p, hp⟩ := get_some (show j < zs.length by omega)
          obtain ⟨l, hl⟩ : ∃ l : Nat, l = j - 1 := ⟨_, rfl⟩
          obtain ⟨q, hq⟩ := get_some (show l < zs.length by omega)
          have p0 := hRp.cell0 hp
          have p1 := hRp.cell1 hp
          have q0 := hRp.cell0 hq
          have q1 := hRp.cell1 hq
          have hjw : IntKind.i64.wrap ((j : Int) - 1) = (l : Int) := by rw [show (j : Int) - 1 = (l : Int) by omega]; exact IntWalk.i64_in _ (by omega)
          have hj0 : (0 : Int) ≤ (j : Int) := by omega
          have hj1 : (j : Int) < (ps.length : Int) := by omega
          have hj2 : (0 : Int) ≤ (l : Int) := by omega
          have hj3 : (l : Int) < (ps.length : Int) := by omega
          have hj5 : (a : Int) < (j : Int) := by omega
          have hd1 : decide ((a : Int) < (j : Int)) = true := by simp; omega
          have zg : g < wp.heap.size := hRp.lt
          have HC := Lib.hid (HCm.out p (HP.out.2.1.subset (List.mem_of_getElem? hp)) q (HP.out.2.1.subset (List.mem_of_getElem? hq)) wp.drew HP.out.2.2.drew)
          have HS := Lib.hid (show ∀ W : World, RowF W g zs → RowF ((((W.setCell ⟨g, j * 2, none⟩ (.int .i64 q.r)).setCell ⟨g, j * 2 + 1, none⟩ (.slice q.a q.n q.c)).setCell ⟨g, l * 2, none⟩ (.int .i64 p.r)).setCell ⟨g, l * 2 + 1, none⟩ (.slice p.a p.n p.c)) g ((zs.set j q).set l p) ∧ ((zs.set j q).set l p).Perm ps from
            fun W h => ⟨(h.set_ _ q).set_ _ p, (fswap_perm hp hq).trans HP.out.2.1⟩)
          have e1 : ¬ j = l := by omega
          have e2 : ¬ l = j := by omega
          have e3 : ¬ j * 2 = l * 2 := by omega
          have e4 : ¬ l * 2 = j * 2 := by omega
          have e5 : ¬ j * 2 = l * 2 + 1 := by omega
          have e6 : ¬ l * 2 = j * 2 + 1 := by omega
          have e7 : ¬ j * 2 + 1 = l * 2 := by omega
          have e8 : ¬ l * 2 + 1 = j * 2 := by omega
          have hlj : a ≤ l ∧ l ≤ i ∧ l < j := by omega
          clear hp hq hRp hl
          go_wp2_with fail
          refine wp_region_noPanic ?_
          refine wp_region_held_drew (S := (fun w' => w'.cell? ⟨g, j * 2, none⟩ = some (.int .i64 p.r) ∧ w'.cell? ⟨g, j * 2 + 1, none⟩ = some (.slice p.a p.n p.c) ∧ w'.cell? ⟨g, l * 2, none⟩ = some (.int .i64 q.r) ∧ w'.cell? ⟨g, l * 2 + 1, none⟩ = some (.slice q.a q.n q.c))) (by kernel_rfl) ?hb (fun hHeld => ?bb)
          case hb => ((try dsimp only); go_keep)
          refine take_run (i := 0) (v := ?vb0) rfl (by kernel_rfl) (by kernel_rfl) (by kernel_rfl) (fun _ _ _ h => h) (by rfl) ?yb0 (by assumption) ?rb0
          case yb0 => (intro w hSw; (try dsimp only at hSw); go_simp; try with_reducible rfl)
          try simp only [Act.put, List.setIfInBounds_toArray, List.set_cons_zero, List.set_cons_succ]
          refine take_run (i := 1) (v := ?vb1) rfl (by kernel_rfl) (by kernel_rfl) (by kernel_rfl) (fun _ _ _ h => h) (by rfl) ?yb1 (by assumption) ?rb1
          case yb1 => (intro w hSw; (try dsimp only at hSw); go_simp; try with_reducible rfl)
          try simp only [Act.put, List.setIfInBounds_toArray, List.set_cons_zero, List.set_cons_succ]
          refine take_run (i := 2) (v := .bool true) rfl (by kernel_rfl) (by kernel_rfl) (by kernel_rfl) (fun _ _ _ h => h) (by rfl) ?yb2 (by assumption) ?rb2
          case yb2 => (intro w hSw; (try dsimp only at hSw); try go_simp; first | done | omega | (simp [hd1]; done) | trace_state)
          try simp only [Act.put, List.setIfInBounds_toArray, List.set_cons_zero, List.set_cons_succ]
          refine take_run (i := 3) (v := ?vb3) rfl (by kernel_rfl) (by kernel_rfl) (by kernel_rfl) (fun _ _ _ h => h) (by rfl) ?yb3 (by assumption) ?rb3
          case yb3 => (intro w hSw; (try dsimp only at hSw); go_simp; try with_reducible rfl)
          try simp only [Act.put, List.setIfInBounds_toArray, List.set_cons_zero, List.set_cons_succ]
          refine take_run (i := 4) (v := ?vb4) rfl (by kernel_rfl) (by kernel_rfl) (by kernel_rfl) (fun _ _ _ h => h) (by rfl) ?yb4 (by assumption) ?rb4
          case yb4 => (intro w hSw; (try dsimp only at hSw); go_simp; try with_reducible rfl)
          try simp only [Act.put, List.setIfInBounds_toArray, List.set_cons_zero, List.set_cons_succ]
          refine take_run (i := 5) (v := ?vb5) rfl (by kernel_rfl) (by kernel_rfl) (by kernel_rfl) (fun _ _ _ h => h) (by rfl) ?yb5 (by assumption) ?rb5
          case yb5 => (intro w hSw; (try dsimp only at hSw); go_simp; try with_reducible rfl)
          try simp only [Act.put, List.setIfInBounds_toArray, List.set_cons_zero, List.set_cons_succ]
          refine take_run (i := 6) (v := ?vb6) rfl (by kernel_rfl) (by kernel_rfl) (by kernel_rfl) (fun _ _ _ h => h) (by rfl) ?yb6 (by assumption) ?rb6
          case yb6 => (intro w hSw; (try dsimp only at hSw); go_simp; try with_reducible rfl)
          try simp only [Act.put, List.setIfInBounds_toArray, List.set_cons_zero, List.set_cons_succ]
          refine take_run (i := 7) (v := ?vb7) rfl (by kernel_rfl) (by kernel_rfl) (by kernel_rfl) (fun _ _ _ h => h) (by rfl) ?yb7 (by assumption) ?rb7
          case yb7 => (intro w hSw; (try dsimp only at hSw); go_simp; try with_reducible rfl)
          try simp only [Act.put, List.setIfInBounds_toArray, List.set_cons_zero, List.set_cons_succ]
          refine take_run (i := 8) (v := ?vb8) rfl (by kernel_rfl) (by kernel_rfl) (by kernel_rfl) (fun _ _ _ h => h) (by rfl) ?yb8 (by assumption) ?rb8
          case yb8 => (intro w hSw; (try dsimp only at hSw); go_simp; try with_reducible rfl)
          try simp only [Act.put, List.setIfInBounds_toArray, List.set_cons_zero, List.set_cons_succ]
          refine take_run (i := 9) (v := ?vb9) rfl (by kernel_rfl) (by kernel_rfl) (by kernel_rfl) (fun _ _ _ h => h) (by rfl) ?yb9 (by assumption) ?rb9
          case yb9 => (intro w hSw; (try dsimp only at hSw); go_simp; try with_reducible rfl)
          try simp only [Act.put, List.setIfInBounds_toArray, List.set_cons_zero, List.set_cons_succ]
          refine take_run (i := 10) (v := ?vb10) rfl (by kernel_rfl) (by kernel_rfl) (by kernel_rfl) (fun _ _ _ h => h) (by rfl) ?yb10 (by assumption) ?rb10
          case yb10 => (intro w hSw; (try dsimp only at hSw); go_simp; try with_reducible rfl)
          try simp only [Act.put, List.setIfInBounds_toArray, List.set_cons_zero, List.set_cons_succ]
          refine take_run (i := 11) (v := ?vb11) rfl (by kernel_rfl) (by kernel_rfl) (by kernel_rfl) (fun _ _ _ h => h) (by rfl) ?yb11 (by assumption) ?rb11
          case yb11 => (intro w hSw; (try dsimp only at hSw); go_simp; try with_reducible rfl)
          try simp only [Act.put, List.setIfInBounds_toArray, List.set_cons_zero, List.set_cons_succ]
          refine take_run (i := 12) (v := ?vb12) rfl (by kernel_rfl) (by kernel_rfl) (by kernel_rfl) (fun _ _ _ h => h) (by rfl) ?yb12 (by assumption) ?rb12
          case yb12 => (intro w hSw; (try dsimp only at hSw); go_simp; try with_reducible rfl)
          try simp only [Act.put, List.setIfInBounds_toArray, List.set_cons_zero, List.set_cons_succ]
          refine take_run (i := 13) (v := ?vb13) rfl (by kernel_rfl) (by kernel_rfl) (by kernel_rfl) (fun _ _ _ h => h) (by rfl) ?yb13 (by assumption) ?rb13
          case yb13 => (intro w hSw; (try dsimp only at hSw); go_simp; try with_reducible rfl)
          try simp only [Act.put, List.setIfInBounds_toArray, List.set_cons_zero, List.set_cons_succ]
          refine take_call (i := 14) rfl (by kernel_rfl) (by rfl) (fun Kq hK => ?_)
          go_simp
          go_at_call 132
          refine HC.out.mono ?_
          rintro e w1 ⟨⟨k, rfl⟩, hb1⟩
          have HB1 := Lib.hid (bundrew hb1)
          have n0 := (HB1.out.cell (p := ⟨g, j * 2, none⟩) zg).trans p0
          have n1 := (HB1.out.cell (p := ⟨g, j * 2 + 1, none⟩) zg).trans p1
          have n2 := (HB1.out.cell (p := ⟨g, l * 2, none⟩) zg).trans q0
          have n3 := (HB1.out.cell (p := ⟨g, l * 2 + 1, none⟩) zg).trans q1
          clear hb1
          refine hK.out _ _ ?hb14 (fun hHeld => ?rb14)
          case hb14 => ((try dsimp only); go_keep)
          clear hK Kq
          try simp only [Act.put, List.setIfInBounds_toArray, List.set_cons_zero, List.set_cons_succ]
          refine take_run (i := 15) (v := ?vb15) rfl (by kernel_rfl) (by kernel_rfl) (by kernel_rfl) (fun _ _ _ h => h) (by rfl) ?yb15 (by assumption) ?rb15
          case yb15 => (intro w hSw; (try dsimp only at hSw); go_simp; try with_reducible rfl)
          try simp only [Act.put, List.setIfInBounds_toArray, List.set_cons_zero, List.set_cons_succ]
          refine take_run (i := 16) (v := ?vb16) rfl (by kernel_rfl) (by kernel_rfl) (by kernel_rfl) (fun _ _ _ h => h) (by rfl) ?yb16 (by assumption) ?rb16
          case yb16 => (intro w hSw; (try dsimp only at hSw); go_simp; try with_reducible rfl)
          try simp only [Act.put, List.setIfInBounds_toArray, List.set_cons_zero, List.set_cons_succ]
          refine wpAnyH_done (by kernel_rfl) ?_ _
          refine NoPanic.normal ?_
          have hR1 := HP.out.1.below HB1.out
          have HR1 := Lib.hid hR1
          by_cases hc1 : k < 0
          · have p0f := hR1.frozen (j * 2)
            have p1f := hR1.frozen (j * 2 + 1)
            have q0f := hR1.frozen (l * 2)
            have q1f := hR1.frozen (l * 2 + 1)
            clear hR1 p0 p1 q0 q1
            go_wp2_with fail
            go_region
            go_wp2_with fail
            go_roundw
            case rel => exact ⟨l, _, hlj.1, hlj.2.1, rfl, (HS.out _ HR1.out).1.below ((Below.refl _ _).drew), (HS.out _ HR1.out).2, (pair_kept (pair_kept (HP.out.2.2.below HB1.out))).drew⟩
            case measure => simp [intOf]; omega
          · clear hR1 p0 p1 q0 q1
            go_wp2_with fail
            go_roundw
            case rel => exact ⟨i + 1, zs, by omega, by omega, by go_num, HR1.out, HP.out.2.1, HP.out.2.2.below HB1.out⟩
            case measure => simp [intOf]; omega
    · have hlt' : ¬ (i : Int) < (b : Int) := by omega
      go_wp2_with fail
      go_end0
      exact ⟨rfl, qs, HO.out⟩
end Go.Proofs.YtjdojogjogenkaaDoor

/- Contract: slices.Compare at ints. -/
namespace Go.Proofs.YtjdojogjogenkaaDoor
open Go.RowKit
set_option linter.unusedVariables false

theorem cmpL_drop {xs ys : List Int} {k : Nat} {x y : Int} (hx : xs[k]? = some x) (hy : ys[k]? = some y) : cmpL (xs.drop k) (ys.drop k) = if cmpI x y = 0 then cmpL (xs.drop (k + 1)) (ys.drop (k + 1)) else cmpI x y := by
  rw [drop_cons hx, drop_cons hy, cmpL]
  unfold cmpI
  by_cases h1 : x < y
  · simp [h1]
  · by_cases h2 : y < x
    · simp [h1, h2]
    · simp [h1, h2]

set_option maxRecDepth 100000 in
set_option maxHeartbeats 2000000 in
theorem compareInts_any (xs ys : List Int) (A B : Option Addr) (c d : Nat) (S S' : Nat → Prop) (w : World) (hm : xs.length ≤ 1000000) (hm' : ys.length ≤ 1000000) (hA : Els w S xs A) (hB : Els w S' ys B) :
    Calls Tryd.prog 135 #[.slice A xs.length c, .slice B ys.length d] w fun e w' => e = .returned (.int .i64 (cmpL xs ys)) ∧ w = w' := by
  have HA := Lib.hid hA
  have HB := Lib.hid hB
  have hm1 : (xs.length : Int) ≤ 1000000 := by omega
  have hm2 : (ys.length : Int) ≤ 1000000 := by omega
  clear hA hB
  go_enter Tryd.func135, Tryd.ntmps135
  go_wp2
  go_loop [11] (fun i => ∃ k : Nat, k ≤ xs.length ∧ k ≤ ys.length ∧ i = .int .i64 k ∧ cmpL xs ys = cmpL (xs.drop k) (ys.drop k)) (fun i => xs.length - (intOf i).toNat)
  case atStart => exact ⟨0, Nat.zero_le _, Nat.zero_le _, rfl, rfl⟩
  case round =>
    obtain ⟨k, hk, hk2, rfl, hcmp⟩ := hrel
    have HC := Lib.hid hcmp
    clear hcmp
    have hk0 : (0 : Int) ≤ (k : Int) := by omega
    by_cases hlt : k < xs.length
    · obtain ⟨x, hx⟩ := get_some hlt
      obtain ⟨bx, ox, rfl, _, _, _, xc⟩ := HA.out.int hx
      have hl1 : (k : Int) < (xs.length : Int) := by omega
      by_cases hlt2 : k < ys.length
      · obtain ⟨y, hy⟩ := get_some hlt2
        obtain ⟨by_, oy, rfl, _, _, _, yc⟩ := HB.out.int hy
        have hl2 : (k : Int) < (ys.length : Int) := by omega
        have hl3 : ¬ (ys.length : Int) ≤ (k : Int) := by omega
        have HD := Lib.hid (cmpL_drop hx hy)
        clear hx hy
        by_cases hz : cmpI x y = 0
        · have hzb : (cmpI x y != 0) = false := by simp [hz]
          have HN := Lib.hid (show cmpL xs ys = cmpL (xs.drop (k + 1)) (ys.drop (k + 1)) by rw [HC.out, HD.out, if_pos hz])
          clear hz
          go_wp2_with fail
          refine (cmpInt_any x y _).mono ?_
          rintro e w1 ⟨rfl, rfl⟩
          go_wp2
          go_round
          case rel => exact ⟨k + 1, hlt, hlt2, by go_num, HN.out⟩
          case measure => simp [intOf]; omega
        · have hzb : (cmpI x y != 0) = true := by simp [hz]
          have HN := Lib.hid (show cmpL xs ys = cmpI x y by rw [HC.out, HD.out, if_neg hz])
          clear hz
          go_wp2_with fail
          refine (cmpInt_any x y _).mono ?_
          rintro e w1 ⟨rfl, rfl⟩
          go_wp2
          go_ret
          exact ⟨ret_int HN.out.symm, rfl⟩
      · have hl3 : (ys.length : Int) ≤ (k : Int) := by omega
        have HN := Lib.hid (show cmpL xs ys = 1 by rw [HC.out, drop_cons hx, show ys.drop k = [] from List.drop_eq_nil_of_le (by omega)]; rfl)
        clear hx
        go_wp2
        go_ret
        exact ⟨ret_int HN.out.symm, rfl⟩
    · have hl1 : ¬ (k : Int) < (xs.length : Int) := by omega
      by_cases hlt2 : xs.length < ys.length
      · obtain ⟨y, hy⟩ := get_some (show k < ys.length by omega)
        have hl2 : (xs.length : Int) < (ys.length : Int) := by omega
        have HN := Lib.hid (show cmpL xs ys = -1 by rw [HC.out, drop_cons hy, show xs.drop k = [] from List.drop_eq_nil_of_le (by omega)]; rfl)
        clear hy
        go_wp2
        go_ret
        exact ⟨ret_int HN.out.symm, rfl⟩
      · have hl2 : ¬ (xs.length : Int) < (ys.length : Int) := by omega
        have HN := Lib.hid (show cmpL xs ys = 0 by rw [HC.out, show xs.drop k = [] from List.drop_eq_nil_of_le (by omega), show ys.drop k = [] from List.drop_eq_nil_of_le (by omega)]; rfl)
        go_wp2
        go_ret
        exact ⟨ret_int HN.out.symm, rfl⟩
end Go.Proofs.YtjdojogjogenkaaDoor

/- Contract: core.Build$1: it compares two packs; which number it answers is not told. -/
namespace Go.Proofs.YtjdojogjogenkaaDoor
open Go.RowKit
set_option linter.unusedVariables false

theorem cmpL_rg : ∀ (a b : List Int), I64 (cmpL a b)
  | [], [] => by unfold cmpL I64; omega
  | [], _ :: _ => by unfold cmpL I64; omega
  | _ :: _, [] => by unfold cmpL I64; omega
  | x :: xs, y :: ys => by
    have ih := cmpL_rg xs ys
    unfold cmpL
    split
    · unfold I64; omega
    · split
      · unfold I64; omega
      · exact ih

set_option maxRecDepth 100000 in
set_option maxHeartbeats 4000000 in
theorem build1_any (p q : PkV) (l l' : List Int) (S : Nat → Prop) (w : World) (hp : p.n = l.length ∧ l.length ≤ 1000000 ∧ Els w S l p.a) (hq : q.n = l'.length ∧ l'.length ≤ 1000000 ∧ Els w S l' q.a) (hS : ∀ b, S b → b < w.heap.size) :
    Calls Tryd.prog 132 #[p.v, q.v] w fun e w' => (∃ k : Int, e = .returned (.int .i64 k)) ∧ Below w.heap.size w w' := by
  obtain ⟨pr, pa, pn, pc⟩ := p
  obtain ⟨qr, qa, qn, qc⟩ := q
  dsimp only at hp hq
  obtain ⟨rfl, hp1, hp2⟩ := hp
  obtain ⟨rfl, hq1, hq2⟩ := hq
  unfold PkV.v
  dsimp only
  obtain ⟨w1, hw1⟩ : ∃ w1 : World, w1 = (w.alloc (.cells #[.int .i64 pr, .slice pa l.length pc] 155)).alloc (.cells #[.int .i64 qr, .slice qa l'.length qc] 155) := ⟨_, rfl⟩
  have HW1 := Lib.hid hw1
  have HA : Hid (Blk' w1 w.heap.size 155 #[.int .i64 pr, .slice pa l.length pc]) := Lib.hid (by rw [hw1]; exact (Blk'.new _ _ _).alloc _)
  have HB : Hid (Blk' w1 (w.heap.size + 1) 155 #[.int .i64 qr, .slice qa l'.length qc]) := Lib.hid (by rw [hw1]; exact Blk'.new' _ _ _ (by simp))
  have hb1 : Below w.heap.size w w1 := by rw [hw1]; exact ((Below.refl _ _).alloc (Nat.le_refl _) _).alloc (by simp) _
  have HG1 : Hid (Below w.heap.size w w1) := Lib.hid hb1
  have HP : Hid (Els w1 S l pa) := Lib.hid (hp2.belowB hb1 hS)
  have HQ : Hid (Els w1 S l' qa) := Lib.hid (hq2.belowB hb1 hS)
  clear hw1 hp2 hq2 hb1 hS
  go_enter Tryd.func132, Tryd.ntmps132
  go_upto_region 1 with (fail)
  rw [← HW1.out]
  have a0 : w1.cell? ⟨w.heap.size, 0, none⟩ = some (.int .i64 pr) := HA.out.cell 0
  have a1 : w1.cell? ⟨w.heap.size, 1, none⟩ = some (.slice pa l.length pc) := HA.out.cell 1
  have b0 : w1.cell? ⟨w.heap.size + 1, 0, none⟩ = some (.int .i64 qr) := HB.out.cell 0
  have b1 : w1.cell? ⟨w.heap.size + 1, 1, none⟩ = some (.slice qa l'.length qc) := HB.out.cell 1
  have zA : w.heap.size < w1.heap.size := HA.out.lt
  have zB : w.heap.size + 1 < w1.heap.size := HB.out.lt
  refine wp_region_noPanic ?_
  refine wp_region_held_drew (S := (fun w' => w'.cell? ⟨w.heap.size, 0, none⟩ = some (.int .i64 pr) ∧ w'.cell? ⟨w.heap.size, 1, none⟩ = some (.slice pa l.length pc) ∧ w'.cell? ⟨w.heap.size + 1, 0, none⟩ = some (.int .i64 qr) ∧ w'.cell? ⟨w.heap.size + 1, 1, none⟩ = some (.slice qa l'.length qc))) (by kernel_rfl) ?ha (fun hHeld => ?ba)
  case ha => ((try dsimp only); go_keep)
  refine tk 0 rfl (by intro w h; (try dsimp only at h); go_simp; try with_reducible rfl) ?_
  try simp only [Act.put, sA, sB, sC]
  refine tk 1 rfl (by intro w h; (try dsimp only at h); go_simp; try with_reducible rfl) ?_
  try simp only [Act.put, sA, sB, sC]
  refine tk 2 rfl (by intro w h; (try dsimp only at h); go_simp; try with_reducible rfl) ?_
  try simp only [Act.put, sA, sB, sC]
  refine tk 3 rfl (by intro w h; (try dsimp only at h); go_simp; try with_reducible rfl) ?_
  try simp only [Act.put, sA, sB, sC]
  refine tk 5 rfl (by intro w h; (try dsimp only at h); go_simp; try with_reducible rfl) ?_
  try simp only [Act.put, sA, sB, sC]
  refine tk 6 rfl (by intro w h; (try dsimp only at h); go_simp; try with_reducible rfl) ?_
  try simp only [Act.put, sA, sB, sC]
  refine tk 7 rfl (by intro w h; (try dsimp only at h); go_simp; try with_reducible rfl) ?_
  try simp only [Act.put, sA, sB, sC]
  refine tk 8 rfl (by intro w h; (try dsimp only at h); go_simp; try with_reducible rfl) ?_
  try simp only [Act.put, sA, sB, sC]
  refine take_call (i := 4) rfl (by kernel_rfl) (by rfl) (fun Kq hK => ?_)
  go_simp
  go_at_call 134
  refine (cmpInt_any _ _ w1.drew).mono ?_
  rintro e w' ⟨rfl, rfl⟩
  refine hK.out _ _ ?ha4 (fun hHeld => ?ra4)
  case ha4 => ((try dsimp only); go_keep)
  clear hK Kq
  try simp only [Act.put, sA, sB, sC]
  refine take_call (i := 9) rfl (by kernel_rfl) (by rfl) (fun Kq hK => ?_)
  go_simp
  go_at_call 135
  refine (compareInts_any l l' pa qa pc qc S S w1.drew hp1 hq1 HP.out HQ.out).mono ?_
  rintro e w' ⟨rfl, rfl⟩
  refine hK.out _ _ ?ha9 (fun hHeld => ?ra9)
  case ha9 => ((try dsimp only); go_keep)
  clear hK Kq
  try simp only [Act.put, sA, sB, sC]
  refine take_call (i := 10) rfl (by kernel_rfl) (by rfl) (fun Kq hK => ?_)
  go_simp
  obtain ⟨g3, hg3⟩ : ∃ g, g = w1.heap.size := ⟨_, rfl⟩
  obtain ⟨w3, hw3⟩ : ∃ w3 : World, w3 = (w1.alloc (.cells #[.int .i64 (cmpI pr qr), .int .i64 (cmpL l l')] 3)).drew := ⟨_, rfl⟩
  rw [← hw3, ← hg3]
  have hb3 : Below w1.heap.size w1 w3 := by rw [hw3]; exact ((Below.refl _ _).alloc (Nat.le_refl _) _).drew
  have HG3 : Hid (Below w.heap.size w w3) := Lib.hid (bthen HG1.out hb3 HG1.out.size)
  have HE3 : Hid (Els w3 (fun _ => True) [cmpI pr qr, cmpL l l'] (some ⟨g3, 0, none⟩)) := Lib.hid (els_icells (t := 3) (by rw [hw3, hg3]; exact (Blk'.new _ _ _).drew) (by intro v hv; simp at hv; rcases hv with rfl | rfl; exact cmpI_range _ _; exact cmpL_rg _ _) trivial)
  have a0y : w3.cell? ⟨w.heap.size, 0, none⟩ = some (.int .i64 pr) := (hb3.cell (p := ⟨w.heap.size, 0, none⟩) zA).trans a0
  have a1y : w3.cell? ⟨w.heap.size, 1, none⟩ = some (.slice pa l.length pc) := (hb3.cell (p := ⟨w.heap.size, 1, none⟩) zA).trans a1
  have b0y : w3.cell? ⟨w.heap.size + 1, 0, none⟩ = some (.int .i64 qr) := (hb3.cell (p := ⟨w.heap.size + 1, 0, none⟩) zB).trans b0
  have b1y : w3.cell? ⟨w.heap.size + 1, 1, none⟩ = some (.slice qa l'.length qc) := (hb3.cell (p := ⟨w.heap.size + 1, 1, none⟩) zB).trans b1
  have zAy : w.heap.size < w3.heap.size := Nat.lt_of_lt_of_le zA hb3.size
  have zBy : w.heap.size + 1 < w3.heap.size := Nat.lt_of_lt_of_le zB hb3.size
  clear hw3 hg3 hb3
  refine hK.out _ _ ?ha10 (fun hHeld => ?ra10)
  case ha10 => ((try dsimp only); go_keep)
  clear hK Kq
  try simp only [Act.put, sA, sB, sC]
  refine take_call (i := 11) rfl (by kernel_rfl) (by rfl) (fun Kq hK => ?_)
  go_simp
  go_at_call 133
  refine (or_any (some ⟨g3, 0, none⟩) 2 [cmpI pr qr, cmpL l l'] (fun _ => True) w3 (by simp) (by omega) HE3.out).mono ?_
  rintro e w' ⟨rfl, rfl⟩
  refine hK.out _ _ ?ha11 (fun hHeld => ?ra11)
  case ha11 => ((try dsimp only); go_keep)
  clear hK Kq
  try simp only [Act.put, sA, sB, sC]
  refine tk 12 rfl (by intro w h; (try dsimp only at h); go_simp; try with_reducible rfl) ?_
  try simp only [Act.put, sA, sB, sC]
  refine wpAnyH_done (by kernel_rfl) ?_ _
  refine NoPanic.normal ?_
  go_wp2
  go_ret
  exact ⟨⟨_, rfl⟩, HG3.out⟩
end Go.Proofs.YtjdojogjogenkaaDoor

/- Plain: what a count of trees says; the words of trees. No program is named here. -/
namespace Go.Proofs.YtjdojogjogenkaaDoor
set_option linter.unusedVariables false

theorem cnt_pos {P : Tree → Prop} {k : Int} (h : CntIs P k) {t : Tree} (ht : P t) : k ≠ 0 := by
  rcases h with ⟨rfl, _⟩ | ⟨L, _, hL, rfl⟩
  · omega
  · have := List.length_pos_of_mem ((hL t).2 ht)
    omega
theorem cnt_zero {P : Tree → Prop} {k : Int} (h : CntIs P k) (hn : ∀ t, ¬ P t) : k = 0 := by
  rcases h with ⟨rfl, h⟩ | ⟨L, _, hL, rfl⟩
  · obtain ⟨t, ht, _⟩ := h 0
    exact absurd ht (hn t)
  · cases L with
    | nil => rfl
    | cons x L => exact absurd ((hL x).1 (by simp)) (hn x)
theorem cnt_one {P : Tree → Prop} {k : Int} (h : CntIs P k) (hu : ∀ t u, P t → P u → t = u) : k = 0 ∨ k = 1 := by
  rcases h with ⟨rfl, h⟩ | ⟨L, hn, hL, rfl⟩
  · obtain ⟨t, ht, _⟩ := h 0
    obtain ⟨u, hu1, hu2⟩ := h (nodesT t + 1)
    have := hu t u ht hu1
    subst this
    omega
  · have h1 : L.length ≤ 1 := by
      match L, hn, hL with
      | [], _, _ => simp
      | [x], _, _ => simp
      | x :: y :: L, hn, hL =>
        have e := hu x y ((hL x).1 (by simp)) ((hL y).1 (by simp))
        subst e
        simp at hn
    omega
/-- Finitely many trees: the count is their number. -/
theorem cnt_fin {P : Tree → Prop} {k : Int} (h : CntIs P k) {L : List Tree} (hL : ∀ t, P t → t ∈ L) : k ≠ -1 := by
  rcases h with ⟨rfl, h⟩ | ⟨M, _, _, rfl⟩
  · exfalso
    obtain ⟨N, hN⟩ := nodes_bound L
    obtain ⟨t, h1, h2⟩ := h N
    have := hN t (hL t h1)
    omega
  · omega

mutual
theorem yield_rg {g : Gram} (hs : ∀ q ∈ g.rules, ∀ s ∈ q.right, s.term = true → 0 ≤ s.n ∧ s.n < g.terms) : ∀ (t : Tree) (s : Sym), vt g t s → (s.term = true → 0 ≤ s.n ∧ s.n < g.terms) → ∀ x ∈ yieldT t, 0 ≤ x ∧ x < g.terms
  | ⟨r, tt, ks⟩, s, h, h0, x, hx => by
    unfold vt at h
    split at h
    · rename_i ht
      obtain ⟨rfl, rfl, rfl⟩ := h
      unfold yieldT at hx
      rw [if_pos (by omega)] at hx
      simp at hx
      subst hx
      exact h0 ht
    · obtain ⟨_, hr, q, hq, _, hks⟩ := h
      unfold yieldT at hx
      rw [if_neg (by omega)] at hx
      exact yields_rg hs ks q.right hks (fun s hsm => hs q (List.mem_of_getElem? hq) s hsm) x hx
theorem yields_rg {g : Gram} (hs : ∀ q ∈ g.rules, ∀ s ∈ q.right, s.term = true → 0 ≤ s.n ∧ s.n < g.terms) : ∀ (ks : List Tree) (ss : List Sym), vts g ks ss → (∀ s ∈ ss, s.term = true → 0 ≤ s.n ∧ s.n < g.terms) → ∀ x ∈ yields ks, 0 ≤ x ∧ x < g.terms
  | [], _, _, _, x, hx => by simp [yields] at hx
  | k :: ks, [], h, _, x, hx => by unfold vts at h; exact h.elim
  | k :: ks, s :: ss, h, h0, x, hx => by
    unfold vts at h
    unfold yields at hx
    rcases List.mem_append.1 hx with hx | hx
    · exact yield_rg hs k s h.1 (h0 s (by simp)) x hx
    · exact yields_rg hs ks ss h.2 (fun s hsm => h0 s (by simp [hsm])) x hx
end
theorem terms_of {g : Gram} (hv : ValidG g) : ∀ q ∈ g.rules, ∀ s ∈ q.right, s.term = true → 0 ≤ s.n ∧ s.n < g.terms := fun q hq s hs ht => by
  have h := (hv.rules q hq).2.2.2 s hs
  rw [if_pos ht] at h
  exact h
theorem word_rg {g : Gram} (hv : ValidG g) {t : Tree} {n : Int} (h : vt g t ⟨false, n⟩) {most : Int} (hl : ((yieldT t).length : Int) ≤ most) : wordE g.terms (yieldT t) most = 0 := by
  have hr := yield_rg (terms_of hv) t ⟨false, n⟩ h (fun e => by simp at e)
  unfold wordE
  rw [if_neg (by omega), if_neg]
  intro ha
  obtain ⟨x, hx, he⟩ := List.any_eq_true.1 ha
  have := hr x hx
  simp [wordBad] at he
  omega
theorem word_rg2 {tm : Int} {ws : List Int} {most : Int} (hl : (ws.length : Int) ≤ most) (hw : ∀ x ∈ ws, 0 ≤ x ∧ x < tm) : wordE tm ws most = 0 := by
  unfold wordE
  rw [if_neg (by omega), if_neg]
  intro ha
  obtain ⟨x, hx, he⟩ := List.any_eq_true.1 ha
  have := hw x hx
  simp [wordBad] at he
  omega
end Go.Proofs.YtjdojogjogenkaaDoor

/- Contracts: the climber's take, of prec. -/
namespace Go.Proofs.YtjdojogjogenkaaDoor
open Go.RowKit
set_option linter.unusedVariables false

def rejectP : Ending := .panicked [{ v := .iface 176 (.agg #[]), recovered := false }]
/-- A climber in memory: its table, the word, where it stands, the map. -/
def clCells (tm at0 op cl : Int) (lv : Value) (B : Option Addr) (n d : Nat) (p : Nat) (mv : Value) : Array Value := #[.int .i64 tm, .int .i64 at0, .int .i64 op, .int .i64 cl, lv, .slice B n d, .int .i64 p, mv]

theorem below_drewN {B : Nat} {w w' : World} (h : Below B w w') (n : Nat) : Below B w (w'.drewN n) := ⟨h.os, h.tape, h.output, h.size, h.block⟩
theorem kept_drewN {X : Nat → Prop} {w w' : World} (h : Kept X w w') (n : Nat) : Kept X w (w'.drewN n) := ⟨h.os, h.tape, h.output, h.size, h.block⟩
theorem leafC_any (a : Int) (w : World) : Calls Tryd.prog 81 #[.int .i64 a] w fun e w' => e = .returned (.agg #[.int .i64 (-1), .int .i64 a, .slice none 0 0]) ∧ Below w.heap.size w w' := by
  go_enter Tryd.func81, Tryd.ntmps81
  go_wp2
  exact bodyPost_ret (v := .agg #[.int .i64 (-1), .int .i64 a, .slice none 0 0]) (by simp [results, Tryd.results81, go_sem]) rfl ⟨rfl, (Below.refl _ _).alloc (Nat.le_refl _) _⟩

set_option maxRecDepth 100000 in
set_option maxHeartbeats 1000000 in
theorem take_end (K : Nat) (tm at0 op cl term : Int) (lv mv : Value) (B : Option Addr) (n d : Nat) (w : World) (hn : n ≤ 1000000) (hK : Blk' w K 174 (clCells tm at0 op cl lv B n d n mv)) :
    Calls Tryd.prog 144 #[.pointer (some ⟨K, 0, none⟩), .int .i64 term] w fun e w' => e = rejectP ∧ Below w.heap.size w w' := by
  have k5 : w.cell? ⟨K, 5, none⟩ = some (.slice B n d) := hK.cell 5
  have k6 : w.cell? ⟨K, 6, none⟩ = some (.int .i64 n) := hK.cell 6
  have zK := hK.lt
  have hb := Lib.hid (fun o => (Below.refl w.heap.size w).alloc (Nat.le_refl _) o)
  have hself : (((n : Nat) : Int) == ((n : Nat) : Int)) = true := by simp
  clear hK
  go_enter Tryd.func144, Tryd.ntmps144
  go_wp2_with fail
  go_quiet (fail)
  go_wp2_with fail
  exact ⟨rfl, rfl, below_drewN (hb.out _) _⟩

set_option maxRecDepth 100000 in
set_option maxHeartbeats 1000000 in
/-- The terminal is there: it is taken. -/
theorem take_hit (K : Nat) (tm at0 op cl term : Int) (lv mv : Value) (l : List Int) (B : Option Addr) (d p : Nat) (S : Nat → Prop) (w : World) (hn : l.length ≤ 1000000) (hK : Blk' w K 174 (clCells tm at0 op cl lv B l.length d p mv)) (hl : l[p]? = some term) (hB : Els w S l B) :
    Calls Tryd.prog 144 #[.pointer (some ⟨K, 0, none⟩), .int .i64 term] w fun e w' => e = .returned (.agg #[.int .i64 (-1), .int .i64 term, .slice none 0 0]) ∧ Blk' w' K 174 (clCells tm at0 op cl lv B l.length d (p + 1) mv) ∧ Kept (fun b => b = K) w w' := by
  obtain ⟨bx, ox, rfl, hSx, hbx, hxi, hxc⟩ := hB.int hl
  have hp : p < l.length := (List.getElem?_eq_some_iff.1 hl).1
  have k5 : w.cell? ⟨K, 5, none⟩ = some (.slice (some ⟨bx, ox, none⟩) l.length d) := hK.cell 5
  have k6 : w.cell? ⟨K, 6, none⟩ = some (.int .i64 p) := hK.cell 6
  have f6 := hK.frozen 6
  have zK := hK.lt
  have HK := Lib.hid hK
  have hne : ¬ (p : Int) = (l.length : Int) := by omega
  have hd1 : decide ((p : Int) = (l.length : Int)) = false := by simp; omega
  have hp0 : (0 : Int) ≤ (p : Int) := by omega
  have hp9 : (p : Int) < (l.length : Int) := by omega
  clear hK hB hl hSx
  go_enter Tryd.func144, Tryd.ntmps144
  go_wp2_with fail
  go_quiet (fail)
  go_wp2_with fail
  obtain ⟨w2, hw2⟩ : ∃ w2 : World, w2 = (((w.alloc (.cells #[.int .i64 0, .int .i64 0, .slice none 0 0] 27)).drewN nq).setCell ⟨K, 6, none⟩ (.int .i64 ((p : Int) + 1))) := ⟨_, rfl⟩
  have HK2 : Hid (Blk' w2 K 174 (clCells tm at0 op cl lv (some ⟨bx, ox, none⟩) l.length d (p + 1) mv)) := Lib.hid (by
    have h : Blk' ((w.alloc (.cells #[.int .i64 0, .int .i64 0, .slice none 0 0] 27)).drewN nq) K 174 (clCells tm at0 op cl lv (some ⟨bx, ox, none⟩) l.length d p mv) := HK.out.alloc _
    rw [hw2]
    exact h.set_ 6 _)
  have HKp : Hid (Kept (fun b => b = K) w w2) := Lib.hid (by
    rw [hw2]
    exact (kept_drewN ((Kept.refl (fun b => b = K) w).alloc _) _).setCell (p := ⟨K, 6, none⟩) (.inl rfl) _)
  have HR : Hid (Blk' w2 w.heap.size 27 #[.int .i64 0, .int .i64 0, .slice none 0 0]) := Lib.hid (by
    have h : Blk' ((w.alloc (.cells #[.int .i64 0, .int .i64 0, .slice none 0 0] 27)).drewN nq) w.heap.size 27 #[.int .i64 0, .int .i64 0, .slice none 0 0] := Blk'.new w _ _
    rw [hw2]
    exact h.kept ((Kept.refl (fun b => b = K) _).setCell (p := ⟨K, 6, none⟩) (.inl rfl) _) (by omega))
  have HW := Lib.hid hw2
  rw [← hw2]
  clear hw2
  refine (leafC_any term _).mono ?_
  rintro e w3 ⟨rfl, hb3⟩
  have hR3 := HR.out.below hb3 HR.out.lt
  have HB3 := Lib.hid hb3
  have HR3 := Lib.hid hR3
  have s0 : w3.cell? ⟨w.heap.size, 0, none⟩ = some (.int .i64 0) := hR3.cell 0
  have s1 : w3.cell? ⟨w.heap.size, 1, none⟩ = some (.int .i64 0) := hR3.cell 1
  have s2 : w3.cell? ⟨w.heap.size, 2, none⟩ = some (.slice none 0 0) := hR3.cell 2
  have r0 := hR3.frozen 0
  have r1 := hR3.frozen 1
  have r2 := hR3.frozen 2
  have z3 := hR3.lt
  obtain ⟨wF, hwF⟩ : ∃ wF : World, wF = (((w3.setCell ⟨w.heap.size, 0, none⟩ (.int .i64 (-1))).setCell ⟨w.heap.size, 1, none⟩ (.int .i64 term)).setCell ⟨w.heap.size, 2, none⟩ (.slice none 0 0)) := ⟨_, rfl⟩
  have HF : Hid (Kept (fun b => b = w.heap.size) w3 wF) := Lib.hid (by rw [hwF]; exact (((Kept.refl (fun b => b = w.heap.size) w3).setCell (p := ⟨w.heap.size, 0, none⟩) (.inl rfl) _).setCell (p := ⟨w.heap.size, 1, none⟩) (.inl rfl) _).setCell (p := ⟨w.heap.size, 2, none⟩) (.inl rfl) _)
  have hRF : Blk' wF w.heap.size 27 #[.int .i64 (-1), .int .i64 term, .slice none 0 0] := by rw [hwF]; exact ((hR3.set_ 0 _).set_ 1 _).set_ 2 _
  have u0 : wF.cell? ⟨w.heap.size, 0, none⟩ = some (.int .i64 (-1)) := hRF.cell 0
  have u1 : wF.cell? ⟨w.heap.size, 1, none⟩ = some (.int .i64 term) := hRF.cell 1
  have u2 : wF.cell? ⟨w.heap.size, 2, none⟩ = some (.slice none 0 0) := hRF.cell 2
  have HWF := Lib.hid hwF
  clear hR3 hb3 hRF hwF
  go_wp2_with fail
  rw [← HWF.out]
  refine bodyPost_ret (v := .agg #[.int .i64 (-1), .int .i64 term, .slice none 0 0]) (by simp [results, Tryd.results144, go_sem, u0, u1, u2]) rfl ⟨rfl, (HK2.out.below HB3.out HK2.out.lt).kept HF.out (by omega), ?_⟩
  exact (HKp.out.below HB3.out).later HF.out (fun b hb => .inr (by have h1 : b = w.heap.size := hb; omega))
end Go.Proofs.YtjdojogjogenkaaDoor

/- Contracts: slices.Index and slices.Contains at int. -/
namespace Go.Proofs.YtjdojogjogenkaaDoor
open Go.RowKit
set_option linter.unusedVariables false

set_option maxRecDepth 100000 in
theorem indexInt_any (A : Option Addr) (c : Nat) (xs : List Int) (z : Int) (S : Nat → Prop) (w : World) (hm : xs.length ≤ 9223372036854775807) (hA : Els w S xs A) :
    Calls Tryd.prog 45 #[.slice A xs.length c, .int .i64 z] w fun e w' => e = .returned (.int .i64 (idxI (fun x => z == x) xs)) ∧ w = w' := by
  go_enter Tryd.func45, Tryd.ntmps45
  go_wp2
  go_loop [8] (fun i => ∃ k : Nat, k ≤ xs.length ∧ i = .int .i64 k ∧ (∀ y ∈ xs.take k, (z == y) = false)) (fun i => xs.length - (intOf i).toNat)
  case atStart => exact ⟨0, Nat.zero_le _, rfl, by simp⟩
  case round =>
    obtain ⟨k, hk, rfl, hno⟩ := hrel
    have HN := Lib.hid hno
    clear hno
    by_cases hlt : k < xs.length
    · obtain ⟨x, hx⟩ := get_some hlt
      obtain ⟨b, o, rfl, _, hbs, hi, hc0⟩ := hA.int hx
      have HX := Lib.hid hx
      clear hx
      have hk0 : (0 : Int) ≤ (k : Int) := by omega
      have hk1 : (k : Int) < (xs.length : Int) := by omega
      cases hp : (z == x)
      · go_wp2
        go_round
        case rel => exact ⟨k + 1, by omega, by go_num, by
          rw [take_snoc HX.out]
          intro y hy
          rcases List.mem_append.1 hy with h | h
          · exact HN.out y h
          · simp at h; subst h; exact hp⟩
        case measure => simp [intOf]; omega
      · have E0 := Lib.hid (idxI_hit (p := fun x => z == x) HX.out hp HN.out)
        go_wp2
        go_ret
        exact ⟨ret_int E0.out.symm, rfl⟩
    · have E0 := Lib.hid (show idxI (fun x => z == x) xs = -1 from idxI_none (by have h := HN.out; rwa [List.take_of_length_le (by omega)] at h))
      go_wp2
      go_ret
      exact ⟨ret_int E0.out.symm, rfl⟩

theorem any_eq_mem (xs : List Int) (z : Int) : xs.any (fun x => z == x) = decide (z ∈ xs) := by
  rw [Bool.eq_iff_iff]; simp [List.any_eq_true]
theorem containsInt_any (A : Option Addr) (n c : Nat) (xs : List Int) (z : Int) (S : Nat → Prop) (w : World) (hn : n = xs.length) (hm : xs.length ≤ 9223372036854775807) (hA : Els w S xs A) :
    Calls Tryd.prog 89 #[.slice A n c, .int .i64 z] w fun e w' => e = .returned (.bool (decide (z ∈ xs))) ∧ w = w' := by
  subst hn
  have HA := Lib.hid hA
  clear hA
  go_enter Tryd.func89, Tryd.ntmps89
  go_wp2_with fail
  refine (indexInt_any A c xs z S _ hm HA.out).mono ?_
  rintro e w1 ⟨rfl, rfl⟩
  go_wp2
  go_ret
  exact ⟨ret_bool ((idxI_nonneg _ _).trans (any_eq_mem xs z)), rfl⟩
end Go.Proofs.YtjdojogjogenkaaDoor

/- The climber's world, and contracts of its take and op, of prec. -/
namespace Go.Proofs.YtjdojogjogenkaaDoor
open Go.RowKit
set_option linter.unusedVariables false

/-- The climber in memory, at the place p: its table's levels, its word, and the map of the rules' numbers. -/
structure ClW (t : Table) (l : List Int) (K : Nat) (A : Option Addr) (c : Nat) (B : Option Addr) (d : Nat) (M mn : Nat) (D : DataW Unit) (S St : Nat → Prop) (p : Nat) (w : World) : Prop where
  blk : Blk' w K 174 (clCells t.terms t.atom t.opn t.cls (.slice A t.levels.length c) B l.length d p (.map (some M)))
  word : Els w S l B
  levs : Els w St t.levels A
  map : w.ownsMap Tryd.prog 3 (plainElem Tryd.prog 3) M mn D
  le : p ≤ l.length
/-- What does not turn. -/
structure ClF (t : Table) (l : List Int) (K M : Nat) (D : DataW Unit) (S St : Nat → Prop) : Prop where
  sK : ∀ b, S b → b ≠ K
  tK : ∀ b, St b → b ≠ K
  mK : M ≠ K
  small : l.length ≤ 1000000
  lev : t.levels.length ≤ 6
  opsn : (opsL t).length ≤ 1000000
  ops : ∀ lv ∈ t.levels, lv.ops.length ≤ 9223372036854775807
  at_ : ∀ op ∈ opsL t, D.atKey (.int .i64 op) (.lit (.int .i64 0)) = .lit (.int .i64 (rulOf t op))
section
variable {t : Table} {l : List Int} {K : Nat} {A : Option Addr} {c : Nat} {B : Option Addr} {d M mn : Nat} {D : DataW Unit} {S St : Nat → Prop} {p q : Nat} {w w' : World}
theorem ClW.kept (h : ClW t l K A c B d M mn D S St p w) (f : ClF t l K M D S St) (k : Kept (fun b => b = K) w w') (hq : q ≤ l.length) (hb : Blk' w' K 174 (clCells t.terms t.atom t.opn t.cls (.slice A t.levels.length c) B l.length d q (.map (some M)))) : ClW t l K A c B d M mn D S St q w' :=
  ⟨hb, h.word.kept k (fun b hb => f.sK b hb), h.levs.kept k (fun b hb => f.tK b hb), h.map.kept (row := some K) ⟨k.os, k.tape, k.output, k.size, fun x hx hx' => k.block x hx (fun e => hx' (by rw [e]))⟩ (fun e => by injection e with e; exact f.mK e), hq⟩
theorem ClW.below (h : ClW t l K A c B d M mn D S St p w) (k : Below w.heap.size w w') : ClW t l K A c B d M mn D S St p w' :=
  ⟨h.blk.below k h.blk.lt, h.word.below k, h.levs.below k, h.map.kept (row := none) ⟨k.os, k.tape, k.output, k.size, fun x hx _ => k.block x hx⟩ (by simp), h.le⟩
end

set_option maxRecDepth 100000 in
set_option maxHeartbeats 1000000 in
/-- Another terminal is there: the word is rejected. -/
theorem take_miss (K : Nat) (tm at0 op cl term : Int) (lv mv : Value) (l : List Int) (B : Option Addr) (d p : Nat) (o : Int) (S : Nat → Prop) (w : World) (hn : l.length ≤ 1000000) (hK : Blk' w K 174 (clCells tm at0 op cl lv B l.length d p mv)) (hl : l[p]? = some o) (ho : o ≠ term) (hB : Els w S l B) :
    Calls Tryd.prog 144 #[.pointer (some ⟨K, 0, none⟩), .int .i64 term] w fun e w' => e = rejectP ∧ Below w.heap.size w w' := by
  obtain ⟨bx, ox, rfl, hSx, hbx, hxi, hxc⟩ := hB.int hl
  have hp : p < l.length := (List.getElem?_eq_some_iff.1 hl).1
  have k5 : w.cell? ⟨K, 5, none⟩ = some (.slice (some ⟨bx, ox, none⟩) l.length d) := hK.cell 5
  have k6 : w.cell? ⟨K, 6, none⟩ = some (.int .i64 p) := hK.cell 6
  have zK := hK.lt
  have hb := Lib.hid (fun o => (Below.refl w.heap.size w).alloc (Nat.le_refl _) o)
  have hne : ¬ (p : Int) = (l.length : Int) := by omega
  have hd1 : decide ((p : Int) = (l.length : Int)) = false := by simp; omega
  have hd2 : decide (o = term) = false := by simp [ho]
  have hd3 : (o != term) = true := by simp [ho]
  have hp0 : (0 : Int) ≤ (p : Int) := by omega
  have hp9 : (p : Int) < (l.length : Int) := by omega
  clear hK hB hl hSx
  go_enter Tryd.func144, Tryd.ntmps144
  go_wp2_with fail
  go_quiet (fail)
  go_wp2_with fail
  exact ⟨rfl, rfl, below_drewN (hb.out _) _⟩

set_option maxRecDepth 100000 in
set_option maxHeartbeats 1000000 in
/-- An operator of the level is next. -/
theorem op_yes {t : Table} {l : List Int} {K : Nat} {A : Option Addr} {c : Nat} {B : Option Addr} {d M mn : Nat} {D : DataW Unit} {S St : Nat → Prop} {p : Nat} {w : World} (h : ClW t l K A c B d M mn D S St p w) (f : ClF t l K M D S St) {k : Nat} {lv : Level} (hlv : t.levels[k]? = some lv) {o : Int} (ho : l[p]? = some o) (hm : o ∈ lv.ops) :
    Calls Tryd.prog 143 #[.pointer (some ⟨K, 0, none⟩), .int .i64 k] w fun e w' => e = .returned (.tuple #[.int .i64 o, .bool true]) ∧ Below w.heap.size w w' := by
  have hsm := f.small
  have hll := f.lev
  have hol := f.ops lv (List.mem_of_getElem? hlv)
  obtain ⟨bx, ox, rfl, hSx, hbx, hxi, hxc⟩ := h.word.int ho
  obtain ⟨bl, ol, Ao, co, rfl, hSl, hbl, hlk, hlc, hco, hEo, lc0, lc1⟩ := h.levs.level hlv
  have hp : p < l.length := (List.getElem?_eq_some_iff.1 ho).1
  have hk : k < t.levels.length := (List.getElem?_eq_some_iff.1 hlv).1
  have k4 : w.cell? ⟨K, 4, none⟩ = some (.slice (some ⟨bl, ol, none⟩) t.levels.length c) := h.blk.cell 4
  have k5 : w.cell? ⟨K, 5, none⟩ = some (.slice (some ⟨bx, ox, none⟩) l.length d) := h.blk.cell 5
  have k6 : w.cell? ⟨K, 6, none⟩ = some (.int .i64 p) := h.blk.cell 6
  have zK := h.blk.lt
  have hb := Lib.hid (Below.refl w.heap.size w)
  have hne : ¬ (p : Int) = (l.length : Int) := by omega
  have hd1 : decide ((p : Int) = (l.length : Int)) = false := by simp; omega
  have hp0 : (0 : Int) ≤ (p : Int) := by omega
  have hp9 : (p : Int) < (l.length : Int) := by omega
  have hk0 : (0 : Int) ≤ (k : Int) := by omega
  have hk9 : (k : Int) < (t.levels.length : Int) := by omega
  have HE := Lib.hid hEo
  have hin : decide (o ∈ lv.ops) = true := by simp [hm]
  have Hol := Lib.hid hol
  clear hlv ho hm h f hSx hSl hEo hlk hxi hol
  go_enter Tryd.func143, Tryd.ntmps143
  go_wp2_with fail
  go_quiet ((go_at_call 89; refine Calls.quiet_of_same ((containsInt_any _ _ _ lv.ops o _ _ rfl Hol.out (HE.out.below (below_drewN (Below.refl _ _) _))).mono fun e w' hh => ⟨hh.1, hh.2.symm⟩)))
  go_wp2_with fail
  go_quiet (fail)
  go_wp2_with fail
  refine bodyPost_ret (v := .tuple #[.int .i64 o, .bool true]) (by simp [results, Tryd.results143, go_sem]) rfl ?_
  exact ⟨rfl, below_drewN (below_drewN hb.out _) _⟩

set_option maxRecDepth 100000 in
set_option maxHeartbeats 1000000 in
/-- No operator of the level is next. -/
theorem op_no {t : Table} {l : List Int} {K : Nat} {A : Option Addr} {c : Nat} {B : Option Addr} {d M mn : Nat} {D : DataW Unit} {S St : Nat → Prop} {p : Nat} {w : World} (h : ClW t l K A c B d M mn D S St p w) (f : ClF t l K M D S St) {k : Nat} {lv : Level} (hlv : t.levels[k]? = some lv) (hno : ∀ o, l[p]? = some o → o ∉ lv.ops) :
    Calls Tryd.prog 143 #[.pointer (some ⟨K, 0, none⟩), .int .i64 k] w fun e w' => e = .returned (.tuple #[.int .i64 0, .bool false]) ∧ Below w.heap.size w w' := by
  have hsm := f.small
  have hle := h.le
  have zK := h.blk.lt
  have hb := Lib.hid (Below.refl w.heap.size w)
  have k5 : w.cell? ⟨K, 5, none⟩ = some (.slice B l.length d) := h.blk.cell 5
  have k6 : w.cell? ⟨K, 6, none⟩ = some (.int .i64 p) := h.blk.cell 6
  by_cases hp : p < l.length
  · have hll := f.lev
    have hol := f.ops lv (List.mem_of_getElem? hlv)
    obtain ⟨o, ho⟩ := get_some hp
    have hm := hno o ho
    obtain ⟨bx, ox, rfl, hSx, hbx, hxi, hxc⟩ := h.word.int ho
    obtain ⟨bl, ol, Ao, co, rfl, hSl, hbl, hlk, hlc, hco, hEo, lc0, lc1⟩ := h.levs.level hlv
    have hk : k < t.levels.length := (List.getElem?_eq_some_iff.1 hlv).1
    have k4 : w.cell? ⟨K, 4, none⟩ = some (.slice (some ⟨bl, ol, none⟩) t.levels.length c) := h.blk.cell 4
    have hne : ¬ (p : Int) = (l.length : Int) := by omega
    have hd1 : decide ((p : Int) = (l.length : Int)) = false := by simp; omega
    have hp0 : (0 : Int) ≤ (p : Int) := by omega
    have hp9 : (p : Int) < (l.length : Int) := by omega
    have hk0 : (0 : Int) ≤ (k : Int) := by omega
    have hk9 : (k : Int) < (t.levels.length : Int) := by omega
    have HE := Lib.hid hEo
    have hin : decide (o ∈ lv.ops) = false := by simp [hm]
    have Hol := Lib.hid hol
    clear hlv ho hm hno h f hSx hSl hEo hlk hxi hol
    go_enter Tryd.func143, Tryd.ntmps143
    go_wp2_with fail
    go_quiet ((go_at_call 89; refine Calls.quiet_of_same ((containsInt_any _ _ _ lv.ops o _ _ rfl Hol.out (HE.out.below (below_drewN (Below.refl _ _) _))).mono fun e w' hh => ⟨hh.1, hh.2.symm⟩)))
    go_wp2_with fail
    refine bodyPost_ret (v := .tuple #[.int .i64 0, .bool false]) (by simp [results, Tryd.results143, go_sem]) rfl ?_
    exact ⟨rfl, below_drewN hb.out _⟩
  · obtain rfl : p = l.length := by omega
    have hself : (((l.length : Nat) : Int) == ((l.length : Nat) : Int)) = true := by simp
    clear hlv hno h f
    go_enter Tryd.func143, Tryd.ntmps143
    go_wp2_with fail
    go_quiet (fail)
    go_wp2_with fail
    refine bodyPost_ret (v := .tuple #[.int .i64 0, .bool false]) (by simp [results, Tryd.results143, go_sem]) rfl ?_
    exact ⟨rfl, below_drewN hb.out _⟩
end Go.Proofs.YtjdojogjogenkaaDoor

/- prec.brackets: whether a table has parentheses. -/
namespace Go.Proofs.YtjdojogjogenkaaDoor
open Go.RowKit

theorem brackets_any (w : World) (a b o c : Int) (ls : List Level) (v : Value) (hv : ∃ A k c, v = .slice A k c) :
    Calls Tryd.prog 110 #[.agg #[.int .i64 a, .int .i64 b, .int .i64 o, .int .i64 c, v]] w fun e w' => e = .returned (.bool (brk ⟨a, b, o, c, ls⟩)) ∧ Below w.heap.size w w' := by
  obtain ⟨A, k, cp, rfl⟩ := hv
  have hb : ∀ o1, Below w.heap.size w (w.alloc o1) := fun o1 => (Below.refl _ _).alloc (Nat.le_refl _) _
  by_cases k1 : o = -1
  · subst k1
    by_cases k2 : c = -1
    · have E := Lib.hid (show brk ⟨a, b, -1, c, ls⟩ = false by simp [brk, k2])
      go_enter Tryd.func110, Tryd.ntmps110
      go_wp2
      go_ret
      exact ⟨ret_bool E.out.symm, hb _⟩
    · have E := Lib.hid (show brk ⟨a, b, -1, c, ls⟩ = true by simp [brk, k2])
      go_enter Tryd.func110, Tryd.ntmps110
      go_wp2
      go_ret
      exact ⟨ret_bool (by rw [E.out]; simpa using k2), hb _⟩
  · have E := Lib.hid (show brk ⟨a, b, o, c, ls⟩ = true by simp [brk, k1])
    go_enter Tryd.func110, Tryd.ntmps110
    go_wp2
    go_ret
    exact ⟨ret_bool E.out.symm, hb _⟩
end Go.Proofs.YtjdojogjogenkaaDoor

/- Contracts: prec.Climb's deferred closure: of a frame that panics with reject{}, of a frame that returns. -/
namespace Go.Proofs.YtjdojogjogenkaaDoor
open Go.RowKit
set_option linter.unusedVariables false

theorem assert_nil (W : World) : (Instr.typeAssert Value.nilIface 20 176 true).run Tryd.prog W = .ok (.tuple #[.agg #[], .bool false]) W := by kernel_rfl
theorem assert_reject (W : World) : (Instr.typeAssert (Value.iface 176 (.agg #[])) 20 176 true).run Tryd.prog W = .ok (.tuple #[.agg #[], .bool true]) W := by kernel_rfl

set_option maxRecDepth 100000 in
theorem climbD_idle (p q r s : Addr) (w : World) :
    CallsD Tryd.prog 114 #[.pointer (some p), .pointer (some q), .pointer (some r), .pointer (some s)] .returning w fun e u' w' => e = .returned (.tuple #[]) ∧ u' = .returning ∧ w' = w.alloc (.cells #[] 176) := by
  have ha := assert_nil
  refine callsD_of_wpS Tryd.func114 rfl fun c₀ cs hu => ?_
  apply wpS_seq
  apply wpS_region
  simp [wpOpsS, go_sem, recoverD, hu, Tryd.ntmps114, Exit.thenS, ha]
  apply wpS_seq
  apply wpS_region
  simp [wpOpsS, go_sem, Exit.thenS]
  refine wpS_cond (t := false) (by simp [Act.eval, Array.replicate]) ?_
  simp only [Bool.false_eq_true, if_false]
  refine wpS_of_wp (wp_skip ?_)
  cases c₀
  simp_all [bodyPostS, results, Tryd.results114]

set_option maxRecDepth 100000 in
set_option maxHeartbeats 2000000 in
/-- Of a frame that panics with reject{}: the panic is taken, and the named results are laid. C: the variable that holds the pointer to the climber K. -/
theorem climbD_reject (C T a e K : Nat) (at_ x y z u : Int) (v tv : Value) (older : List PanicEntry) (w : World)
    (hC : w.cell? ⟨C, 0, none⟩ = some (.pointer (some ⟨K, 0, none⟩))) (hK : w.cell? ⟨K, 6, none⟩ = some (.int .i64 at_))
    (hC0 : C < w.heap.size) (hK0 : K < w.heap.size) (hT0 : T < w.heap.size) (ha0 : a < w.heap.size) (he0 : e < w.heap.size)
    (n1 : ¬ T = a) (n2 : ¬ T = e) (n3 : ¬ a = e) (n4 : ¬ a = T) (n5 : ¬ e = T) (n6 : ¬ e = a) (hT : Blk' w T 27 #[.int .i64 x, .int .i64 y, tv]) (hA : Blk' w a 3 #[.int .i64 z]) (hE : Blk' w e 28 #[.int .i64 u]) :
    CallsD Tryd.prog 114 #[.pointer (some ⟨C, 0, none⟩), .pointer (some ⟨T, 0, none⟩), .pointer (some ⟨a, 0, none⟩), .pointer (some ⟨e, 0, none⟩)] (.panicking ({ v := .iface 176 (.agg #[]), recovered := false } :: older)) w fun e' u' w' => e' = .returned (.tuple #[]) ∧ u' = .panicking ({ v := .iface 176 (.agg #[]), recovered := true } :: older) ∧ w' = ((((((w.alloc (.cells #[] 176)).setCell ⟨T, 0, none⟩ (.int .i64 0)).setCell ⟨T, 1, none⟩ (.int .i64 0)).setCell ⟨T, 2, none⟩ (.slice none 0 0)).setCell ⟨a, 0, none⟩ (.int .i64 at_)).setCell ⟨e, 0, none⟩ (.int .i64 10)) := by
  have ha := assert_reject
  refine callsD_of_wpS Tryd.func114 rfl fun c₀ cs hu => ?_
  apply wpS_seq
  apply wpS_region
  simp [wpOpsS, go_sem, recoverD, hu, Tryd.ntmps114, Exit.thenS, ha, Array.replicate, List.replicate]
  apply wpS_seq
  apply wpS_region
  simp [wpOpsS, go_sem, Exit.thenS]
  refine wpS_cond (t := true) (by simp [Act.eval, Array.replicate]) ?_
  simp only [if_true]
  obtain ⟨w1, hw1⟩ : ∃ w1 : World, w1 = w.alloc (.cells #[] 176) := ⟨_, rfl⟩
  have hb : Below w.heap.size w w1 := by rw [hw1]; exact (Below.refl _ _).alloc (Nat.le_refl _) _
  have k0 := (hb.cell (p := ⟨C, 0, none⟩) hC0).trans hC
  have k1 := (hb.cell (p := ⟨K, 6, none⟩) hK0).trans hK
  have hT1 := hT.below hb hT.lt
  have hA1 := hA.below hb hA.lt
  have hE1 := hE.below hb hE.lt
  have t0 : w1.cell? ⟨T, 0, none⟩ = some (.int .i64 x) := hT1.cell 0
  have t1 : w1.cell? ⟨T, 1, none⟩ = some (.int .i64 y) := hT1.cell 1
  have t2 : w1.cell? ⟨T, 2, none⟩ = some tv := hT1.cell 2
  have a0 : w1.cell? ⟨a, 0, none⟩ = some (.int .i64 z) := hA1.cell 0
  have e0 : w1.cell? ⟨e, 0, none⟩ = some (.int .i64 u) := hE1.cell 0
  have f0 := hT1.frozen 0
  have f1 := hT1.frozen 1
  have f2 := hT1.frozen 2
  have fa := hA1.frozen 0
  have fe := hE1.frozen 0
  have z1 := hb.size
  have zT1 := hT1.lt
  have zA1 := hA1.lt
  have zE1 := hE1.lt
  have zC1 : C < w1.heap.size := by omega
  have zK1 : K < w1.heap.size := by omega
  rw [← hw1]
  have HW := Lib.hid hw1
  clear hw1 hb hT1 hA1 hE1 hT hA hE hC hK
  refine wpS_of_wp ?_
  go_wp2_with fail
  have hw := HW.out
  cases c₀
  simp_all [bodyPostS, results, Tryd.results114]
end Go.Proofs.YtjdojogjogenkaaDoor

/- The numbers of the rules that a predicate names; a valid grammar's number of rules. -/
namespace Go.Proofs.YtjdojogjogenkaaDoor
open Go.RowKit
set_option linter.unusedVariables false

def whereFrom (p : Rule → Bool) : Nat → List Rule → List Int
  | _, [] => []
  | k, r :: rs => if p r then (k : Int) :: whereFrom p (k + 1) rs else whereFrom p (k + 1) rs
def whereE (g : Gram) (n : Int) : Int := if checkI g ≠ 0 then checkI g else if n < 0 ∨ g.nons ≤ n then 1 else 0
def whereL (g : Gram) (n : Int) (p : Rule → Bool) : List Int := if whereE g n = 0 then whereFrom p 0 g.rules else []
theorem whereFrom_len (p : Rule → Bool) : ∀ (k : Nat) (rs : List Rule), (whereFrom p k rs).length ≤ rs.length
  | _, [] => by simp [whereFrom]
  | k, r :: rs => by
    have := whereFrom_len p (k + 1) rs
    unfold whereFrom; split <;> simp <;> omega
/-- A row of numbers of the call's own, and an error number. -/
def RetInts (w : World) (l : List Int) (er : Int) (e : Ending) (w' : World) : Prop :=
  ∃ v, e = .returned (.tuple #[v, .int .i64 er]) ∧ Own w' (fun _ => False) w.heap.size 3 v l ∧ Below w.heap.size w w'
theorem checkI_nonneg_len {g : Gram} (h : checkI g = 0) : g.rules.length ≤ 32 := by
  unfold checkI at h
  split at h
  · omega
  · split at h <;> omega
end Go.Proofs.YtjdojogjogenkaaDoor

/- Contract: prec.Check. -/
namespace Go.Proofs.YtjdojogjogenkaaDoor
open Go.RowKit
set_option linter.unusedVariables false

/-- A row of integers that a literal has built. -/
theorem Own.built {w : World} (S : Nat → Prop) {base : Nat} {e : TypeId} (xs : List Int) (hb : base ≤ w.heap.size) (hm : xs.length ≤ 9223372036854775807) (hx : ∀ x ∈ xs, I64 x) :
    Own (w.alloc (.cells (xs.map (fun x => Value.int .i64 x)).toArray e)) S base e (.slice (some ⟨w.heap.size, 0, none⟩) xs.length xs.length) xs := by
  refine ⟨xs.map (fun x => [Value.int .i64 x]), ⟨?_, .inr ⟨w.heap.size, xs.length, _, rfl, hb, heap_alloc_new w _, Nat.le_refl _, by simpa [maxLen] using hm, by simp; show _ = _ * 1; simp, ?_⟩⟩, by simp, ?_⟩
  · rw [flat_len (size := Dat.size Int) _ (by intro cs h; simp at h; obtain ⟨x, _, rfl⟩ := h; rfl)]; simp
  · have e1 : (xs.map (fun x => [Value.int .i64 x])).flatten = xs.map (fun x => Value.int .i64 x) := by
      induction xs with
      | nil => rfl
      | cons x xs ih => simp only [List.map_cons, List.flatten_cons, ih (by simp at hm; omega) (fun y hy => hx y (by simp [hy]))]; rfl
    rw [e1]
    show List.take _ (List.map _ xs) = _
    exact List.take_of_length_le (by rw [List.length_map]; show _ ≤ _ * 1; simp)
  · intro i x cs hi hc
    simp [hi] at hc
    subst hc
    exact ⟨rfl, hx x (List.mem_of_getElem? hi)⟩

def LevI (t : Table) (A : Option Addr) (c : Nat) (S : Nat → Prop) (w : World) (v i : Value) (wr : World) : Prop :=
  ∃ (k : Nat) (out : List Int), k ≤ t.levels.length ∧ i = .int .i64 k ∧ t.levels.any badLevel = (t.levels.drop k).any badLevel ∧ allOps t = out ++ ((t.levels.drop k).map Level.ops).flatten ∧ Below w.heap.size w wr ∧
    Blk' wr w.heap.size 65 #[.int .i64 t.terms, .int .i64 t.atom, .int .i64 t.opn, .int .i64 t.cls, .slice A t.levels.length c] ∧ Own wr S (w.heap.size + 1) 3 v out
def SeenI (tm at_ : Int) (xs : List Int) (wo : World) (v i : Value) (wr : World) : Prop :=
  ∃ (k : Nat) (seen : List Int), k ≤ xs.length ∧ i = .int .i64 k ∧ seen.length = k + 1 ∧ precScan tm [at_] xs = precScan tm seen (xs.drop k) ∧ Below wo.heap.size wo wr ∧ Own wr (fun _ => False) wo.heap.size 3 v seen

set_option maxRecDepth 100000 in
set_option maxHeartbeats 1000000 in
theorem precCheck_any (t : Table) (A : Option Addr) (c : Nat) (S : Nat → Prop) (w : World) (h64 : I64 t.terms ∧ I64 t.atom ∧ I64 t.opn ∧ I64 t.cls) (hlc : t.levels.length ≤ c) (hc : c ≤ 9223372036854775807) (hA : Els w S t.levels A) (hS : ∀ b, S b → b < w.heap.size) (hN : (allOps t).length ≤ 2000000) :
    Calls Tryd.prog 67 #[.agg #[.int .i64 t.terms, .int .i64 t.atom, .int .i64 t.opn, .int .i64 t.cls, .slice A t.levels.length c]] w
      fun e w' => e = .returned (.int .i64 (precCheck t)) ∧ Below w.heap.size w w' := by
  obtain ⟨tm, at_, op, cl, ls⟩ := t
  dsimp only at *
  have hba : Below w.heap.size w (w.alloc (.cells #[.int .i64 tm, .int .i64 at_, .int .i64 op, .int .i64 cl, .slice A ls.length c] 65)) := (Below.refl _ _).alloc (Nat.le_refl _) _
  have Hba := Lib.hid hba
  have HN := Lib.hid hN
  have H64 := Lib.hid h64
  clear hba hN h64
  by_cases k1 : tm < 1
  · have E := Lib.hid (show precCheck ⟨tm, at_, op, cl, ls⟩ = 1 by simp [precCheck, k1])
    go_enter Tryd.func67, Tryd.ntmps67
    go_wp2
    go_ret
    exact ⟨ret_int E.out.symm, Hba.out⟩
  by_cases k2 : 8 < tm
  · have E := Lib.hid (show precCheck ⟨tm, at_, op, cl, ls⟩ = 1 by simp [precCheck, k2])
    go_enter Tryd.func67, Tryd.ntmps67
    go_wp2
    go_ret
    exact ⟨ret_int E.out.symm, Hba.out⟩
  by_cases k3 : at_ < 0
  · have E := Lib.hid (show precCheck ⟨tm, at_, op, cl, ls⟩ = 1 by simp [precCheck, k3])
    go_enter Tryd.func67, Tryd.ntmps67
    go_wp2
    go_ret
    exact ⟨ret_int E.out.symm, Hba.out⟩
  by_cases k4 : tm ≤ at_
  · have E := Lib.hid (show precCheck ⟨tm, at_, op, cl, ls⟩ = 1 by simp [precCheck, k4])
    go_enter Tryd.func67, Tryd.ntmps67
    go_wp2
    go_ret
    exact ⟨ret_int E.out.symm, Hba.out⟩
  by_cases k5 : 6 < ls.length
  · have E := Lib.hid (show precCheck ⟨tm, at_, op, cl, ls⟩ = 2 by simp [precCheck, k1, k2, k3, k4, k5])
    go_enter Tryd.func67, Tryd.ntmps67
    go_wp2
    go_ret
    exact ⟨ret_int E.out.symm, Hba.out⟩
  have E0 : Hid (precCheck ⟨tm, at_, op, cl, ls⟩ = if ls.any badLevel then 3 else precScan tm [at_] (allOps ⟨tm, at_, op, cl, ls⟩)) := Lib.hid (by simp only [precCheck]; rw [if_neg (by omega), if_neg (by omega)])
  go_enter Tryd.func67, Tryd.ntmps67
  go_wp2_with fail
  refine (brackets_any _ tm at_ op cl ls _ ⟨_, _, _, rfl⟩).mono ?_
  rintro e w1 ⟨rfl, hb1⟩
  have Hb1 := Lib.hid (bthen Hba.out hb1 (by simp))
  have hG1 := (Blk'.new w 65 #[.int .i64 tm, .int .i64 at_, .int .i64 op, .int .i64 cl, .slice A ls.length c]).below hb1 (by simp)
  have HG1 := Lib.hid hG1
  have g12 : w1.cell? ⟨w.heap.size, 2, none⟩ = some (.int .i64 op) := hG1.cell 2
  have g13 : w1.cell? ⟨w.heap.size, 3, none⟩ = some (.int .i64 cl) := hG1.cell 3
  have g14 : w1.cell? ⟨w.heap.size, 4, none⟩ = some (.slice A ls.length c) := hG1.cell 4
  have hz1 := hG1.lt
  clear hb1 hG1
  cases hbk : brk ⟨tm, at_, op, cl, ls⟩
  obtain ⟨out0, ho0⟩ : ∃ out0 : List Int, out0 = [] := ⟨_, rfl⟩
  obtain ⟨w2, hw2⟩ : ∃ w2 : World, w2 = w1 := ⟨_, rfl⟩
  have EL : Hid (allOps ⟨tm, at_, op, cl, ls⟩ = out0 ++ (ls.map Level.ops).flatten) := Lib.hid (by rw [ho0]; simp [allOps, hbk])
  have HR := Lib.hid (show Own w2 S (w.heap.size + 1) 3 (.slice none 0 0) out0 by rw [ho0]; exact Own.nil _ _ _ _)
  have HB2 := Lib.hid (show Below w.heap.size w w2 by rw [hw2]; exact Hb1.out)
  have HG2 := Lib.hid (show Blk' w2 w.heap.size 65 #[.int .i64 tm, .int .i64 at_, .int .i64 op, .int .i64 cl, .slice A ls.length c] by rw [hw2]; exact HG1.out)
  subst hw2
  clear hbk ho0
  go_wp2
  rotate_left
  have EL : Hid (allOps ⟨tm, at_, op, cl, ls⟩ = [op, cl] ++ (ls.map Level.ops).flatten) := Lib.hid (by simp [allOps, hbk])
  have F1 : ¬ 281474976710656 < Builtin.nextslicecap 2 0 * Tryd.t3.bytes := by decide
  have HR0 := Lib.hid (Own.litGrown (w := w1.alloc (.cells #[.int .i64 op, .int .i64 cl] 3)) (e := 3) S (base := w.heap.size + 1) [op, cl] [[.int .i64 op], [.int .i64 cl]] #[.int .i64 0] 2 rfl rfl (by simp; omega) (by simp) rfl (rd_two ⟨rfl, H64.out.2.2.1⟩ ⟨rfl, H64.out.2.2.2⟩) w1)
  clear hbk
  go_wp2_with fail
  have hsz : (w1.alloc (.cells #[.int .i64 op, .int .i64 cl] 3)).heap.size = w1.heap.size + 1 := by simp
  have HR := Lib.hid (hsz ▸ HR0.out)
  have HB2 := Lib.hid (((Hb1.out.alloc Hb1.out.size (.cells #[.int .i64 op, .int .i64 cl] 3)).alloc (by simp; omega) (.cells ([[Value.int .i64 op], [Value.int .i64 cl]].flatten.toArray ++ Builtin.zeroCells #[.int .i64 0] ((Question.appendCap 2 0 3).cut (w1.tape w1.drawn (Question.appendCap 2 0 3)) - 2)) 3)).drew)
  have HG2 := Lib.hid (((HG1.out.alloc (.cells #[.int .i64 op, .int .i64 cl] 3)).alloc (.cells ([[Value.int .i64 op], [Value.int .i64 cl]].flatten.toArray ++ Builtin.zeroCells #[.int .i64 0] ((Question.appendCap 2 0 3).cut (w1.tape w1.drawn (Question.appendCap 2 0 3)) - 2)) 3)).drew)
  clear hsz HR0 F1
  obtain ⟨out0, ho0⟩ : ∃ out0 : List Int, out0 = [op, cl] := ⟨_, rfl⟩
  rw [← ho0] at EL HR
  all_goals
    go_loopw [3, 45] (fun v i wr => LevI ⟨tm, at_, op, cl, ls⟩ A c S w v i wr) (fun _ i _ => ls.length - (intOf i).toNat)
    case atStart => exact ⟨0, out0, Nat.zero_le _, rfl, rfl, EL.out, HB2.out, HG2.out, HR.out⟩
    case round =>
      obtain ⟨wo, hwo⟩ : ∃ wo : World, wo = wr := ⟨_, rfl⟩
      subst hwo
      obtain ⟨k, out, hk, rfl, hbad, hops, hb, hG, hown⟩ := hrel
      dsimp only at hk hbad hops
      have HB := Lib.hid hb
      have HG := Lib.hid hG
      have HO := Lib.hid hown
      have HD := Lib.hid hbad
      have HP := Lib.hid hops
      have g20 : wo.cell? ⟨w.heap.size, 0, none⟩ = some (.int .i64 tm) := hG.cell 0
      have g21 : wo.cell? ⟨w.heap.size, 1, none⟩ = some (.int .i64 at_) := hG.cell 1
      have hz2 := hG.lt
      clear hb hG hown hbad hops g12 g13 g14
      by_cases hlt : k < ls.length
      · obtain ⟨x, hx⟩ := get_some hlt
        obtain ⟨b, o, Ao, co, rfl, hSb, hbs, hi, hoc, hco, hEo, hc0, hc1⟩ := (hA.belowB HB.out hS).level hx
        have Hd := Lib.hid (drop_cons hx)
        have hk0 : (0 : Int) ≤ (k : Int) := by omega
        obtain ⟨kd, os⟩ := x
        dsimp only at *
        clear hx
        by_cases q1 : kd < 0
        · have E3 := Lib.hid (show precCheck ⟨tm, at_, op, cl, ls⟩ = 3 by rw [E0.out, HD.out, Hd.out]; simp [badLevel, q1])
          go_wp2
          go_ret
          exact ⟨ret_int E3.out.symm, HB.out.alloc HB.out.size _⟩
        by_cases q2 : 3 < kd
        · have E3 := Lib.hid (show precCheck ⟨tm, at_, op, cl, ls⟩ = 3 by rw [E0.out, HD.out, Hd.out]; simp [badLevel, q2])
          go_wp2
          go_ret
          exact ⟨ret_int E3.out.symm, HB.out.alloc HB.out.size _⟩
        by_cases q3 : os.length = 0
        · have E3 := Lib.hid (show precCheck ⟨tm, at_, op, cl, ls⟩ = 3 by rw [E0.out, HD.out, Hd.out]; simp [badLevel, List.length_eq_zero_iff.1 q3])
          rw [q3] at hc1
          go_wp2
          go_ret
          exact ⟨ret_int E3.out.symm, HB.out.alloc HB.out.size _⟩
        have E3 := Lib.hid (show ls.any badLevel = (ls.drop (k + 1)).any badLevel by rw [HD.out, Hd.out, List.any_cons]; have e : badLevel ⟨kd, os⟩ = false := by { simp [badLevel]; exact ⟨by omega, by omega, fun h => q3 (by rw [h]; rfl)⟩ }; rw [e]; rfl)
        have E4 := Lib.hid (show allOps ⟨tm, at_, op, cl, ls⟩ = (out ++ os) ++ ((ls.drop (k + 1)).map Level.ops).flatten by rw [HP.out, Hd.out]; simp)
        have hlen : out.length + os.length ≤ 2000000 := by have h := HN.out; rw [E4.out] at h; simp only [List.length_append] at h; omega
        have hcap1 : (out.length + os.length) * 8 ≤ 140737488355328 := by omega
        have hcap2 : out.length + os.length ≤ 9223372036854775807 := by omega
        clear hlen
        have HO2 := Lib.hid (HO.out.alloc (.cells #[.int .i64 kd, .slice Ao os.length co] 120))
        have HS2 : Hid (∀ b, S b → b < w.heap.size + 1) := Lib.hid (fun b hb => by have := hS b hb; omega)
        have HZ2 : Hid (w.heap.size + 1 ≤ (wo.alloc (.cells #[.int .i64 kd, .slice Ao os.length co] 120)).heap.size) := Lib.hid (by simp; omega)
        have HE2 := Lib.hid ((hEo.below ((Below.refl _ _).alloc (Nat.le_refl _) (.cells #[.int .i64 kd, .slice Ao os.length co] 120))).own HO2.out HS2.out HZ2.out)
        clear hEo
        go_wp2_with (at_builtin; refine wpList_ownMany _ rfl _ _ elemInt rfl rfl HO2.out os rfl rfl HE2.out hcap1 hcap2 HZ2.out ?_; intro v' w3 hown3 hg3 hat3; have H3 := Lib.hid (And.intro hown3 hg3); clear hown3 hg3 hat3)
        go_roundw
        case rel => exact ⟨k + 1, out ++ os, hlt, by go_num, E3.out, E4.out, bgrown (HB.out.alloc HB.out.size _) H3.out.2 HO2.out (by omega) (by have := HZ2.out; omega), (HG.out.alloc _).grown H3.out.2 (own_ne HO2.out), H3.out.1⟩
        case measure => simp [intOf]; omega
      · have EO := Lib.hid (show allOps ⟨tm, at_, op, cl, ls⟩ = out by rw [HP.out, List.drop_of_length_le (by omega)]; simp)
        have E5 := Lib.hid (show precCheck ⟨tm, at_, op, cl, ls⟩ = precScan tm [at_] out by rw [E0.out, HD.out, List.drop_of_length_le (by omega), EO.out]; rfl)
        have hlen : out.length ≤ 2000000 := by have h := HN.out; rw [EO.out] at h; exact h
        obtain ⟨Av, cv, hv, hv1, hv2, _⟩ := HO.out.form
        subst hv
        have HV := Lib.hid (HO.out.vl.keep (S' := fun b => b < wo.heap.size) (fun _ _ _ => rfl) (fun b hb => hb.2)).els
        have HI : Hid (∀ x ∈ [at_], I64 x) := Lib.hid (by intro x hx; simp at hx; subst hx; exact H64.out.2.1)
        have HB5 := Lib.hid ((Below.refl wo.heap.size wo).alloc (Nat.le_refl _) (.cells #[.int .i64 at_] 3))
        have HO5 := Lib.hid (Own.built (w := wo) (e := 3) (fun _ => False) [at_] (Nat.le_refl wo.heap.size) (by simp) HI.out)
        go_wp2
        go_loopw [6, 73] (fun v i wr => SeenI tm at_ out wo v i wr) (fun _ i _ => out.length - (intOf i).toNat)
        case atStart => exact ⟨0, [at_], Nat.zero_le _, rfl, rfl, rfl, HB5.out, HO5.out⟩
        case round =>
          obtain ⟨wi, hwi⟩ : ∃ wi : World, wi = wr := ⟨_, rfl⟩
          subst hwi
          obtain ⟨m, seen, hm, rfl, hsl, hsc, hb, hown⟩ := hrel
          have HBi := Lib.hid hb
          have HOi := Lib.hid hown
          have HSc := Lib.hid hsc
          have g30 : wi.cell? ⟨w.heap.size, 0, none⟩ = some (.int .i64 tm) := (HBi.out.cell (p := ⟨w.heap.size, 0, none⟩) (by show w.heap.size < _; omega)).trans g20
          have HBw := Lib.hid (bthen HB.out hb HB.out.size)
          clear hb hown hsc HB5 HO5
          by_cases hlm : m < out.length
          · obtain ⟨x, hx⟩ := get_some hlm
            obtain ⟨b, o, hAv, hSb, hbs, hix, hcx⟩ := (HV.out.2.2.2.belowB HBi.out (fun b hb => hb)).int hx
            subst hAv
            have Hd := Lib.hid (drop_cons hx)
            clear hx
            have hm0 : (0 : Int) ≤ (m : Int) := by omega
            by_cases q1 : x < 0
            · have E6 := Lib.hid (show precCheck ⟨tm, at_, op, cl, ls⟩ = 1 by rw [E5.out, HSc.out, Hd.out]; simp [precScan, q1])
              go_wp2
              go_ret
              exact ⟨ret_int E6.out.symm, HBw.out⟩
            by_cases q2 : tm ≤ x
            · have E6 := Lib.hid (show precCheck ⟨tm, at_, op, cl, ls⟩ = 1 by rw [E5.out, HSc.out, Hd.out]; simp [precScan, q2])
              go_wp2
              go_ret
              exact ⟨ret_int E6.out.symm, HBw.out⟩
            obtain ⟨As, cs, hv, hv1, hv2, _⟩ := HOi.out.form
            subst hv
            have hmx : seen.length ≤ 9223372036854775807 := by omega
            have HVs := Lib.hid (HOi.out.vl.keep (S' := fun b => b < wi.heap.size) (fun _ _ _ => rfl) (fun b hb => hb.2)).els
            have HIx : Hid (I64 x) := Lib.hid hix
            have hcap1 : (seen.length + 1) * 8 ≤ 140737488355328 := by omega
            have hcap2 : seen.length + 1 ≤ 9223372036854775807 := by omega
            have HSl := Lib.hid hsl
            clear hsl
            go_wp2_with fail
            refine (containsInt_any As _ cs seen x _ _ rfl hmx HVs.out.2.2.2).mono ?_
            rintro e w6 ⟨rfl, hw6⟩
            subst hw6
            by_cases q3 : x ∈ seen
            · have E6 := Lib.hid (show precCheck ⟨tm, at_, op, cl, ls⟩ = 6 by rw [E5.out, HSc.out, Hd.out]; simp [precScan, q1, q2, q3])
              rw [decide_eq_true q3]
              go_wp2
              go_ret
              exact ⟨ret_int E6.out.symm, HBw.out⟩
            · have E6 := Lib.hid (show precScan tm [at_] out = precScan tm (seen ++ [x]) (out.drop (m + 1)) by rw [HSc.out, Hd.out, precScan, if_neg (by omega), if_neg q3])
              rw [decide_eq_false q3]
              have HZ : Hid (wo.heap.size ≤ (wi.alloc (.cells #[.int .i64 x] 3)).heap.size) := Lib.hid (Nat.le_trans HBi.out.size ((Below.refl _ _).alloc (Nat.le_refl _) _).size)
              go_wp2_with (at_builtin; refine wpList_own1 _ rfl _ _ elemInt rfl rfl (HOi.out.alloc _) x [.int .i64 x] rfl (At.new _ _ _) ⟨rfl, HIx.out⟩ hcap1 hcap2 HZ.out ?_; intro v' w7 hown7 hg7 hat7; have H7 := Lib.hid (And.intro hown7 hg7); clear hown7 hg7 hat7)
              go_roundw
              case rel => exact ⟨m + 1, seen ++ [x], hlm, by go_num, (by have := HSl.out; simp; omega), E6.out, bgrown (HBi.out.alloc HBi.out.size _) H7.out.2 (HOi.out.alloc _) (Nat.le_refl _) HZ.out, H7.out.1⟩
              case measure => simp [intOf]; omega
          · have E6 := Lib.hid (show precCheck ⟨tm, at_, op, cl, ls⟩ = 0 by rw [E5.out, HSc.out, List.drop_of_length_le (by omega)]; rfl)
            go_wp2
            go_ret
            exact ⟨ret_int E6.out.symm, HBw.out⟩
end Go.Proofs.YtjdojogjogenkaaDoor

/- The closures that append a rule and a number: prec.flat's add and its kin. -/
namespace Go.Proofs.YtjdojogjogenkaaDoor
open Go.RowKit
set_option linter.unusedVariables false

/-- A grammar's block G and a block L with a row of numbers, both rows of the call's own. X: blocks that neither row lies in. -/
def FlatSt (X S : Nat → Prop) (B G L : Nat) (t n s : Int) (rs : List Rule) (ls : List Int) (w : World) : Prop :=
  ∃ v1 v2, Blk' w G 24 #[.int .i64 t, .int .i64 n, .int .i64 s, v1] ∧ Blk' w L 33 #[v2] ∧ Two w S B 60 3 v1 v2 rs ls ∧
    ∀ b, X b → b < w.heap.size ∧ b ≠ G ∧ b ≠ L ∧ v1.ownBlock ≠ some b ∧ v2.ownBlock ≠ some b
theorem FlatSt.below {X S : Nat → Prop} {B G L : Nat} {t n s : Int} {rs : List Rule} {ls : List Int} {w w' : World} (h : FlatSt X S B G L t n s rs ls w) (hb : Below w.heap.size w w') : FlatSt X S B G L t n s rs ls w' := by
  obtain ⟨v1, v2, h1, h2, h3, h4⟩ := h
  exact ⟨v1, v2, h1.below hb h1.lt, h2.below hb h2.lt, h3.below hb (Nat.le_refl _), fun b hb' => ⟨Nat.lt_of_lt_of_le (h4 b hb').1 hb.size, (h4 b hb').2⟩⟩
/-- A block that is made now is in neither row. -/
theorem FlatSt.guard {X S : Nat → Prop} {B G L : Nat} {t n s : Int} {rs : List Rule} {ls : List Int} {w : World} (h : FlatSt X S B G L t n s rs ls w) (o : Obj) : FlatSt (fun b => b = w.heap.size) S B G L t n s rs ls (w.alloc o) := by
  obtain ⟨v1, v2, h1, h2, h3, h4⟩ := h.below ((Below.refl w.heap.size w).alloc (Nat.le_refl _) o)
  obtain ⟨u1, u2, q1, q2, q3, q4⟩ := h
  have e1 : u1 = v1 := by
    have e := q1.alloc o
    unfold Blk' at e h1
    rw [e] at h1
    simpa using h1
  have e2 : u2 = v2 := by
    have e := q2.alloc o
    unfold Blk' at e h2
    rw [e] at h2
    simpa using h2
  subst e1; subst e2
  refine ⟨u1, u2, h1, h2, h3, fun b hb => ?_⟩
  subst hb
  exact ⟨by simp, fun e => by have := q1.lt; omega, fun e => by have := q2.lt; omega, fun e => by have := (q3.1.block _ e).2; omega, fun e => by have := (q3.2.1.block _ e).2; omega⟩
theorem FlatSt.free {X S : Nat → Prop} {B G L : Nat} {t n s : Int} {rs : List Rule} {ls : List Int} {w : World} (h : FlatSt X S B G L t n s rs ls w) : FlatSt (fun _ => False) S B G L t n s rs ls w := by
  obtain ⟨v1, v2, h1, h2, h3, h4⟩ := h
  exact ⟨v1, v2, h1, h2, h3, fun b hb => hb.elim⟩

theorem flat_done {X S : Nat → Prop} {B0 B G L : Nat} {t n s : Int} {rs : List Rule} {ls : List Int} {w0 w : World} {v1 v2 u1 u2 : Value} (hG : B0 ≤ G ∧ G < B ∧ B0 ≤ L ∧ L < B ∧ G ≠ L ∧ B ≤ w0.heap.size ∧ ¬ S G ∧ ¬ S L)
    (h2 : Two w S B 3 60 v2 v1 ls rs) (hb1 : Blk' w G 24 #[.int .i64 t, .int .i64 n, .int .i64 s, u1]) (hb2 : Blk' w L 33 #[u2])
    (hX : ∀ b, X b → b < w.heap.size ∧ b ≠ G ∧ b ≠ L ∧ v1.ownBlock ≠ some b ∧ v2.ownBlock ≠ some b) :
    FlatSt X S B G L t n s rs ls ((w.setCell ⟨G, 3, none⟩ v1).setCell ⟨L, 0, none⟩ v2) := by
  obtain ⟨q1, q2, q3, q4, q5, q6, q7, q8⟩ := hG
  refine ⟨v1, v2, (hb1.set_ 3 v1).far (p := ⟨L, 0, none⟩) q5 v2, (hb2.far (p := ⟨G, 3, none⟩) (Ne.symm q5) v1).set_ 0 v2, (h2.swap.set_ (p := ⟨G, 3, none⟩) (fun h => ?_) v1).set_ (p := ⟨L, 0, none⟩) (fun h => ?_) v2, fun b hb => ⟨by simpa [World.setCell] using (hX b hb).1, (hX b hb).2⟩⟩
  · rcases h with h | h
    · exact q7 h
    · dsimp only at h; omega
  · rcases h with h | h
    · exact q8 h
    · dsimp only at h; omega

set_option maxRecDepth 100000 in
set_option maxHeartbeats 8000000 in
theorem flatAdd_any (lv : Int) (right : List Sym) (A : Option Addr) (c B0 B G L : Nat) (X S : Nat → Prop) (t n s : Int) (rs : List Rule) (ls : List Int) (w0 w : World)
    (hG : B0 ≤ G ∧ G < B ∧ B0 ≤ L ∧ L < B ∧ G ≠ L ∧ B ≤ w0.heap.size ∧ ¬ S G ∧ ¬ S L) (hst : FlatSt X S B G L t n s rs ls w0) (hb : Below w0.heap.size w0 w) (hr : Els w (fun b => w0.heap.size ≤ b ∧ b < w.heap.size) right A)
    (hc : right.length ≤ c ∧ c ≤ 9223372036854775807) (hI : I64 lv) (hl : rs.length ≤ 1000000 ∧ ls.length ≤ 1000000) :
    Calls Tryd.prog 141 #[.int .i64 lv, .slice A right.length c, .pointer (some ⟨G, 0, none⟩), .pointer (some ⟨L, 0, none⟩)] w
      fun e w' => e = .returned (.tuple #[]) ∧ FlatSt X S B G L t n s (rs ++ [⟨0, right⟩]) (ls ++ [lv]) w' ∧ Below B0 w w' ∧ ∀ b, X b → w'.heap[b]? = w.heap[b]? := by
  have hst' := hst.below hb
  obtain ⟨v1, v2, hb1, hb2, h2, hX⟩ := hst'
  have g3 : w.cell? ⟨G, 3, none⟩ = some v1 := hb1.cell 3
  have l0 : w.cell? ⟨L, 0, none⟩ = some v2 := hb2.cell 0
  have f3 := hb1.frozen 3
  have fl := hb2.frozen 0
  have H2 := Lib.hid h2
  have hn1 : ∀ k, v1.ownBlock = some k → k < w0.heap.size := by
    obtain ⟨u1, u2, q1, q2, q3, _⟩ := hst
    have e1 := q1.below hb q1.lt
    unfold Blk' at e1 hb1
    rw [hb1] at e1
    simp at e1
    rw [e1]
    exact fun k hk => (q3.1.block k hk).2
  have hn2 : ∀ k, v2.ownBlock = some k → k < w0.heap.size := by
    obtain ⟨u1, u2, q1, q2, q3, _⟩ := hst
    have e1 := q2.below hb q2.lt
    unfold Blk' at e1 hb2
    rw [hb2] at e1
    simp at e1
    rw [e1]
    exact fun k hk => (q3.2.1.block k hk).2
  have hsz := hb.size
  have Hrd : Hid (∀ W, Below w.heap.size w W → Dat.rd W (T2 S B v1 v2 W) (⟨0, right⟩ : Rule) [.int .i64 0, .slice A right.length c]) := Lib.hid fun W hW =>
    ⟨_, rfl, (show I64 0 from ⟨by decide, by decide⟩), Vl.of_slice rfl hc.1 hc.2 ((hr.below hW).keep (fun _ _ _ => rfl) (fun b hb' => ⟨.inr (by omega), fun e => by have := hn1 b e; omega, fun e => by have := hn2 b e; omega, by have := hW.size; omega⟩))⟩
  obtain ⟨A1, c1, e1, _⟩ := h2.1.form
  obtain ⟨A2, c2, e2, _⟩ := h2.2.1.form
  subst e1; subst e2
  have HB := Lib.hid (And.intro hb1 hb2)
  have HX := Lib.hid (And.intro hG (And.intro hl (And.intro hn1 hn2)))
  have HI := Lib.hid hI
  have HX2 := Lib.hid hX
  have hlen1 : rs.length + 1 ≤ 1000001 := by omega
  have hlen2 : ls.length + 1 ≤ 1000001 := by omega
  have hBw : B ≤ w.heap.size := by omega
  have hGw : G < w.heap.size := hb1.lt
  have hLw : L < w.heap.size := hb2.lt
  have hB0 : B0 ≤ G ∧ B0 ≤ L := by omega
  have hB1 : B0 ≤ w.heap.size := by omega
  have hB2 : B0 ≤ B := by omega
  clear hX h2 hst hb hb1 hb2 hG hl hn1 hn2 hI hr hc
  have HN : Hid (some G ≠ (Value.slice A1 rs.length c1).ownBlock ∧ some L ≠ (Value.slice A1 rs.length c1).ownBlock ∧ some G ≠ (Value.slice A2 ls.length c2).ownBlock ∧ some L ≠ (Value.slice A2 ls.length c2).ownBlock ∧ some w.heap.size ≠ (Value.slice A1 rs.length c1).ownBlock ∧ some (w.heap.size + 1) ≠ (Value.slice A1 rs.length c1).ownBlock) :=
    Lib.hid ⟨fun e => by have := (H2.out.1.block G e.symm).1; have := HX.out.1; omega, fun e => by have := (H2.out.1.block L e.symm).1; have := HX.out.1; omega, fun e => by have := (H2.out.2.1.block G e.symm).1; have := HX.out.1; omega, fun e => by have := (H2.out.2.1.block L e.symm).1; have := HX.out.1; omega, fun e => by have := (H2.out.1.block _ e.symm).2; omega, fun e => by have := (H2.out.1.block _ e.symm).2; omega⟩
  go_enter Tryd.func141, Tryd.ntmps141
  go_region_law
    (first
    | (refine step_two1 _ (by rfl) _ _ elemRule (by rfl) (by rfl) ((H2.out.alloc _).drew) ⟨0, right⟩ [.int .i64 0, .slice A right.length c] (by rfl) (At.drew (At.new _ _ _)) (Hrd.out _ (((Below.refl _ _).alloc (Nat.le_refl _) _).drew)) (by omega) (by omega) (by simp; omega) ?_
       intro v1' wA hA gA aA
       obtain ⟨A3, k3, e3, _⟩ := hA.1.form; rw [snoc_len] at e3; subst e3
       have bG : Blk' wA G 24 #[.int .i64 t, .int .i64 n, .int .i64 s, .slice A1 rs.length c1] := ((HB.out.1.alloc _).drew).grown gA HN.out.1
       have bL : Blk' wA L 33 #[.slice A2 ls.length c2] := ((HB.out.2.alloc _).drew).grown gA HN.out.2.1
       have l0A : wA.cell? ⟨L, 0, none⟩ = some (.slice A2 ls.length c2) := bL.cell 0
       have lA : L < wA.heap.size := bL.lt
       have hblA : Below B0 w wA := (((Below.refl B0 w).alloc (by omega) _).drew).grown gA (by simp; omega) (fun k hk => by have := (H2.out.1.block k hk).1; omega)
       have zA : w.heap.size + 1 ≤ wA.heap.size := by have := gA.size; simp at this; omega
       have xA : ∀ b, X b → wA.heap[b]? = w.heap[b]? ∧ (Value.slice A3 (rs.length + 1) k3).ownBlock ≠ some b := fun b hb => ⟨(gA.block b (Nat.lt_of_lt_of_le (HX2.out b hb).1 (((Below.refl _ _).alloc (Nat.le_refl _) _).drew : Below w.heap.size w _).size) (fun e => (HX2.out b hb).2.2.2.1 e.symm)).trans ((((Below.refl _ _).alloc (Nat.le_refl _) _).drew : Below w.heap.size w _).block b (HX2.out b hb).1), fun e => (by
         rcases aA with q | q
         · exact (HX2.out b hb).2.2.2.1 (q ▸ e)
         · rw [e] at q; injection q with q; have := (HX2.out b hb).1; simp at q; omega)⟩
       have HxA := Lib.hid xA
       have HA := Lib.hid (And.intro hA (And.intro hblA (And.intro bG bL)))
       clear hA gA aA bG bL hblA xA)
    | (refine step_two1 _ (by rfl) _ _ elemRule (by rfl) (by rfl) (((H2.out.alloc _).alloc _).drew) ⟨0, right⟩ [.int .i64 0, .slice A right.length c] (by rfl) (At.drew (At.alloc (At.new _ _ _) (by simp) _)) (Hrd.out _ ((((Below.refl _ _).alloc (Nat.le_refl _) _).alloc (by simp) _).drew)) (by omega) (by omega) (by simp; omega) ?_
       intro v1' wA hA gA aA
       obtain ⟨A3, k3, e3, _⟩ := hA.1.form; rw [snoc_len] at e3; subst e3
       have bG : Blk' wA G 24 #[.int .i64 t, .int .i64 n, .int .i64 s, .slice A1 rs.length c1] := (((HB.out.1.alloc _).alloc _).drew).grown gA HN.out.1
       have bL : Blk' wA L 33 #[.slice A2 ls.length c2] := (((HB.out.2.alloc _).alloc _).drew).grown gA HN.out.2.1
       have l0A : wA.cell? ⟨L, 0, none⟩ = some (.slice A2 ls.length c2) := bL.cell 0
       have lA : L < wA.heap.size := bL.lt
       have hblA : Below B0 w wA := ((((Below.refl B0 w).alloc (by omega) _).alloc (by simp; omega) _).drew).grown gA (by simp; omega) (fun k hk => by have := (H2.out.1.block k hk).1; omega)
       have zA : w.heap.size + 1 ≤ wA.heap.size := by have := gA.size; simp at this; omega
       have xA : ∀ b, X b → wA.heap[b]? = w.heap[b]? ∧ (Value.slice A3 (rs.length + 1) k3).ownBlock ≠ some b := fun b hb => ⟨(gA.block b (Nat.lt_of_lt_of_le (HX2.out b hb).1 ((((Below.refl _ _).alloc (Nat.le_refl _) _).alloc (by simp) _).drew : Below w.heap.size w _).size) (fun e => (HX2.out b hb).2.2.2.1 e.symm)).trans (((((Below.refl _ _).alloc (Nat.le_refl _) _).alloc (by simp) _).drew : Below w.heap.size w _).block b (HX2.out b hb).1), fun e => (by
         rcases aA with q | q
         · exact (HX2.out b hb).2.2.2.1 (q ▸ e)
         · rw [e] at q; injection q with q; have := (HX2.out b hb).1; simp at q; omega)⟩
       have HxA := Lib.hid xA
       have HA := Lib.hid (And.intro hA (And.intro hblA (And.intro bG bL)))
       have Hat1 := Lib.hid (At.grown (At.drew (At.new1 w [.int .i64 lv] 3 _)) (by simp) gA HN.out.2.2.2.2.2)
       clear hA gA aA bG bL hblA xA)
    | (refine step_two1 _ (by rfl) _ _ elemRule (by rfl) (by rfl) (((H2.out.alloc _).alloc _).drew) ⟨0, right⟩ [.int .i64 0, .slice A right.length c] (by rfl) (At.drew (At.new1 _ _ _ _)) (Hrd.out _ ((((Below.refl _ _).alloc (Nat.le_refl _) _).alloc (by simp) _).drew)) (by omega) (by omega) (by simp; omega) ?_
       intro v1' wA hA gA aA
       obtain ⟨A3, k3, e3, _⟩ := hA.1.form; rw [snoc_len] at e3; subst e3
       have bG : Blk' wA G 24 #[.int .i64 t, .int .i64 n, .int .i64 s, .slice A1 rs.length c1] := (((HB.out.1.alloc _).alloc _).drew).grown gA HN.out.1
       have bL : Blk' wA L 33 #[.slice A2 ls.length c2] := (((HB.out.2.alloc _).alloc _).drew).grown gA HN.out.2.1
       have l0A : wA.cell? ⟨L, 0, none⟩ = some (.slice A2 ls.length c2) := bL.cell 0
       have lA : L < wA.heap.size := bL.lt
       have hblA : Below B0 w wA := ((((Below.refl B0 w).alloc (by omega) _).alloc (by simp; omega) _).drew).grown gA (by simp; omega) (fun k hk => by have := (H2.out.1.block k hk).1; omega)
       have zA : w.heap.size + 1 ≤ wA.heap.size := by have := gA.size; simp at this; omega
       have xA : ∀ b, X b → wA.heap[b]? = w.heap[b]? ∧ (Value.slice A3 (rs.length + 1) k3).ownBlock ≠ some b := fun b hb => ⟨(gA.block b (Nat.lt_of_lt_of_le (HX2.out b hb).1 ((((Below.refl _ _).alloc (Nat.le_refl _) _).alloc (by simp) _).drew : Below w.heap.size w _).size) (fun e => (HX2.out b hb).2.2.2.1 e.symm)).trans (((((Below.refl _ _).alloc (Nat.le_refl _) _).alloc (by simp) _).drew : Below w.heap.size w _).block b (HX2.out b hb).1), fun e => (by
         rcases aA with q | q
         · exact (HX2.out b hb).2.2.2.1 (q ▸ e)
         · rw [e] at q; injection q with q; have := (HX2.out b hb).1; simp at q; omega)⟩
       have HxA := Lib.hid xA
       have HA := Lib.hid (And.intro hA (And.intro hblA (And.intro bG bL)))
       have Hat2 := Lib.hid (At.grown (At.drew (At.alloc (At.new w [.int .i64 lv] 3) (by simp) _)) (by simp) gA HN.out.2.2.2.2.1)
       clear hA gA aA bG bL hblA xA)
    | (refine step_two1 _ (by rfl) _ _ elemInt (by rfl) (by rfl) ((HA.out.1.alloc _).swap) lv [.int .i64 lv] (by rfl) (At.new _ _ _) ⟨rfl, HI.out⟩ (by omega) (by omega) (by first | omega | (simp; omega)) ?_
       intro v2' wB hB gB aB
       obtain ⟨A4, k4, e4, _⟩ := hB.1.form; rw [snoc_len] at e4; subst e4
       have bG : Blk' wB G 24 #[.int .i64 t, .int .i64 n, .int .i64 s, .slice A1 rs.length c1] := (HA.out.2.2.1.alloc _).grown gB HN.out.2.2.1
       have bL : Blk' wB L 33 #[.slice A2 ls.length c2] := (HA.out.2.2.2.alloc _).grown gB HN.out.2.2.2.1
       have fGB := bG.frozen 3
       have fLB := bL.frozen 0
       have gGB : wB.cell? ⟨G, 3, none⟩ = some (.slice A1 rs.length c1) := bG.cell 3
       have gLB : wB.cell? ⟨L, 0, none⟩ = some (.slice A2 ls.length c2) := bL.cell 0
       have hbl : Below B0 w wB := (HA.out.2.1.alloc (by omega) _).grown gB (by first | omega | (simp; omega)) (fun k hk => by have := (HA.out.1.2.1.block k hk).1; omega)
       have xB : ∀ b, X b → wB.heap[b]? = w.heap[b]? ∧ (Value.slice A4 (ls.length + 1) k4).ownBlock ≠ some b := fun b hb => ⟨(gB.block b (by first | (have := (HX2.out b hb).1; omega) | (have := (HX2.out b hb).1; simp; omega)) (fun e => (HX2.out b hb).2.2.2.2 e.symm)).trans ((Below.heap_alloc _ _ _ (by have := (HX2.out b hb).1; omega)).trans (HxA.out b hb).1), fun e => (by
         rcases aB with q | q
         · exact (HX2.out b hb).2.2.2.2 (q ▸ e)
         · rw [e] at q; injection q with q; have := (HX2.out b hb).1; first | omega | (simp at q; omega))⟩
       have HxB := Lib.hid xB
       have HZ := Lib.hid (And.intro hB (And.intro bG (And.intro bL hbl)))
       clear hB gB aB bG bL hbl xB)
    | (refine step_two1 _ (by rfl) _ _ elemInt (by rfl) (by rfl) (HA.out.1.swap) lv [.int .i64 lv] (by rfl) (Hat1.out) ⟨rfl, HI.out⟩ (by omega) (by omega) (by first | omega | (simp; omega)) ?_
       intro v2' wB hB gB aB
       obtain ⟨A4, k4, e4, _⟩ := hB.1.form; rw [snoc_len] at e4; subst e4
       have bG : Blk' wB G 24 #[.int .i64 t, .int .i64 n, .int .i64 s, .slice A1 rs.length c1] := HA.out.2.2.1.grown gB HN.out.2.2.1
       have bL : Blk' wB L 33 #[.slice A2 ls.length c2] := HA.out.2.2.2.grown gB HN.out.2.2.2.1
       have fGB := bG.frozen 3
       have fLB := bL.frozen 0
       have gGB : wB.cell? ⟨G, 3, none⟩ = some (.slice A1 rs.length c1) := bG.cell 3
       have gLB : wB.cell? ⟨L, 0, none⟩ = some (.slice A2 ls.length c2) := bL.cell 0
       have hbl : Below B0 w wB := HA.out.2.1.grown gB (by first | omega | (simp; omega)) (fun k hk => by have := (HA.out.1.2.1.block k hk).1; omega)
       have xB : ∀ b, X b → wB.heap[b]? = w.heap[b]? ∧ (Value.slice A4 (ls.length + 1) k4).ownBlock ≠ some b := fun b hb => ⟨(gB.block b (by first | (have := (HX2.out b hb).1; omega) | (have := (HX2.out b hb).1; simp; omega)) (fun e => (HX2.out b hb).2.2.2.2 e.symm)).trans ((HxA.out b hb).1), fun e => (by
         rcases aB with q | q
         · exact (HX2.out b hb).2.2.2.2 (q ▸ e)
         · rw [e] at q; injection q with q; have := (HX2.out b hb).1; first | omega | (simp at q; omega))⟩
       have HxB := Lib.hid xB
       have HZ := Lib.hid (And.intro hB (And.intro bG (And.intro bL hbl)))
       clear hB gB aB bG bL hbl xB)
    | (refine step_two1 _ (by rfl) _ _ elemInt (by rfl) (by rfl) (HA.out.1.swap) lv [.int .i64 lv] (by rfl) (Hat2.out) ⟨rfl, HI.out⟩ (by omega) (by omega) (by first | omega | (simp; omega)) ?_
       intro v2' wB hB gB aB
       obtain ⟨A4, k4, e4, _⟩ := hB.1.form; rw [snoc_len] at e4; subst e4
       have bG : Blk' wB G 24 #[.int .i64 t, .int .i64 n, .int .i64 s, .slice A1 rs.length c1] := HA.out.2.2.1.grown gB HN.out.2.2.1
       have bL : Blk' wB L 33 #[.slice A2 ls.length c2] := HA.out.2.2.2.grown gB HN.out.2.2.2.1
       have fGB := bG.frozen 3
       have fLB := bL.frozen 0
       have gGB : wB.cell? ⟨G, 3, none⟩ = some (.slice A1 rs.length c1) := bG.cell 3
       have gLB : wB.cell? ⟨L, 0, none⟩ = some (.slice A2 ls.length c2) := bL.cell 0
       have hbl : Below B0 w wB := HA.out.2.1.grown gB (by first | omega | (simp; omega)) (fun k hk => by have := (HA.out.1.2.1.block k hk).1; omega)
       have xB : ∀ b, X b → wB.heap[b]? = w.heap[b]? ∧ (Value.slice A4 (ls.length + 1) k4).ownBlock ≠ some b := fun b hb => ⟨(gB.block b (by first | (have := (HX2.out b hb).1; omega) | (have := (HX2.out b hb).1; simp; omega)) (fun e => (HX2.out b hb).2.2.2.2 e.symm)).trans ((HxA.out b hb).1), fun e => (by
         rcases aB with q | q
         · exact (HX2.out b hb).2.2.2.2 (q ▸ e)
         · rw [e] at q; injection q with q; have := (HX2.out b hb).1; first | omega | (simp at q; omega))⟩
       have HxB := Lib.hid xB
       have HZ := Lib.hid (And.intro hB (And.intro bG (And.intro bL hbl)))
       clear hB gB aB bG bL hbl xB))
  all_goals
    clear g3 l0 f3 fl
    go_end0
    exact ⟨rfl, flat_done HX.out.1 HZ.out.1 HZ.out.2.1 HZ.out.2.2.1 (fun b hb => ⟨Nat.lt_of_lt_of_le (HX2.out b hb).1 HZ.out.2.2.2.size, (HX2.out b hb).2.1, (HX2.out b hb).2.2.1, (HxA.out b hb).2, (HxB.out b hb).2⟩), (HZ.out.2.2.2.setCell hB0.1 _).setCell hB0.2 _, fun b hb => ((Below.heap_setCell _ _ _ _ (HX2.out b hb).2.2.1).trans (Below.heap_setCell _ _ _ _ (HX2.out b hb).2.1)).trans (HxB.out b hb).1⟩
end Go.Proofs.YtjdojogjogenkaaDoor

/- Contract: the closure of parlkeep2.Operators that reads a choice. -/
namespace Go.Proofs.YtjdojogjogenkaaDoor
open Go.RowKit
set_option linter.unusedVariables false

def RetAt (l : List Int) (n : Int) (w : World) (e : Ending) (w' : World) : Prop := ∃ r : Int, 0 ≤ r ∧ r < n ∧ (l = [] → r = 0) ∧ e = .returned (.int .i64 r) ∧ w = w'
set_option maxRecDepth 100000 in
theorem at_any (l : List Int) (b : Nat) (A : Option Addr) (c : Nat) (S : Nat → Prop) (i n : Int) (w : World) (h0 : 0 ≤ i) (h9 : i ≤ 1000) (hn : 1 ≤ n) (hn' : n ≤ 1000000000) (hlc : l.length ≤ c) (hc : c ≤ 9223372036854775807) (hB : Blk' w b 33 #[.slice A l.length c]) (hA : Els w S l A) :
    Calls Tryd.prog 66 #[.int .i64 i, .int .i64 n, .pointer (some ⟨b, 0, none⟩)] w (RetAt l n w) := by
  have b0 : w.cell? ⟨b, 0, none⟩ = some (.slice A l.length c) := hB.cell 0
  have zb := hB.lt
  clear hB
  by_cases hi : i < (l.length : Int)
  · obtain ⟨x, hx⟩ := get_some (show i.toNat < l.length by omega)
    obtain ⟨bx, ox, rfl, hSx, hbx, hxi, hxc⟩ := hA.int hx
    have HX := Lib.hid (And.intro hxi hx)
    have HN := Lib.hid (And.intro hn hn')
    clear hA hx hn hn' hxi
    go_enter Tryd.func66, Tryd.ntmps66
    go_wp2_with fail
    refine (below_any x n _ HX.out.1 HN.out.1 HN.out.2).mono ?_
    rintro e w1 ⟨r, hr0, hr1, rfl, rfl⟩
    go_wp2
    go_ret
    exact ⟨r, hr0, hr1, fun h => by have := HX.out.2; rw [h] at this; simp at this, rfl, rfl⟩
  · clear hA
    go_enter Tryd.func66, Tryd.ntmps66
    go_wp2
    go_ret
    exact ⟨0, Int.le_refl _, by omega, fun _ => rfl, rfl, rfl⟩
end Go.Proofs.YtjdojogjogenkaaDoor

/- Contract: parlkeep2.Operators: a valid table, whatever the numbers. -/
namespace Go.Proofs.YtjdojogjogenkaaDoor
open Go.RowKit
set_option linter.unusedVariables false

theorem infoLevel : (Tryd.prog.info? 120).map (fun i => (i.zero, i.size, i.bytes)) = some (some (.agg #[.int .i64 0, .slice none 0 0]), 2, 32) := by kernel_rfl
theorem elemLevel : ElemT Tryd.prog Level 63 120 32 := by obtain ⟨i, h1, h2, h3, h4⟩ := info_parts infoLevel; exact ⟨i, _, Tryd.underlying63, h1, h2, h3, h4, rfl⟩

structure OpH (l : List Int) (A : Option Addr) (c : Nat) (w wr : World) : Prop where
  box : Blk' wr w.heap.size 33 #[.slice A l.length c]
  res : Blk' wr (w.heap.size + 1) 65 #[.int .i64 0, .int .i64 0, .int .i64 0, .int .i64 0, .slice none 0 0]
  bel : Below w.heap.size w wr
  size : w.heap.size + 3 ≤ wr.heap.size
theorem OpH.kept {l : List Int} {A : Option Addr} {c : Nat} {w wr w' : World} {X : Nat → Prop} (h : OpH l A c w wr) (k : Kept X wr w') (hX : ∀ b, X b → w.heap.size + 2 ≤ b) : OpH l A c w w' :=
  ⟨h.box.kept k (fun e => by have := hX _ e; omega), h.res.kept k (fun e => by have := hX _ e; omega), bthen h.bel (k.to_below (B := w.heap.size) (fun b hb => by have := hX b hb; omega) h.bel.size) (Nat.le_refl _), Nat.le_trans h.size k.size⟩
theorem OpH.below {l : List Int} {A : Option Addr} {c : Nat} {w wr w' : World} (h : OpH l A c w wr) (k : Below wr.heap.size wr w') : OpH l A c w w' := h.kept (Kept.of_below (fun _ => False) k) (fun _ h => h.elim)

def OpO (l : List Int) (A : Option Addr) (c : Nat) (w : World) (N : Nat) (op i : Value) (wr : World) : Prop :=
  ∃ (j k : Nat) (t : Table) (v : Value), j ≤ N ∧ i = .int .i64 j ∧ op = .int .i64 ((k : Int) + 3) ∧ OpsT t j k ∧ (l = [] → t.opn = -1) ∧ OpH l A c w wr ∧ Blk' wr (w.heap.size + 2) 65 #[.int .i64 8, .int .i64 0, .int .i64 t.opn, .int .i64 t.cls, v] ∧ Own wr (fun _ => False) (w.heap.size + 3) 120 v t.levels
def OpI (wz : World) (kd : Int) (k M : Nat) (op i : Value) (wr : World) : Prop :=
  ∃ (j q : Nat) (v : Value), j ≤ M ∧ q ≤ j ∧ k + q ≤ 5 ∧ i = .int .i64 j ∧ op = .int .i64 ((k : Int) + (q : Int) + 3) ∧ Blk' wr wz.heap.size 120 #[.int .i64 kd, v] ∧ Own wr (fun _ => False) (wz.heap.size + 1) 3 v (runL q (3 + (k : Int))) ∧ Below wz.heap.size wz wr
def RetOps (l : List Int) (w : World) (e : Ending) (w' : World) : Prop :=
  ∃ (t : Table) (v : Value) (k : Nat), e = .returned (.agg #[.int .i64 8, .int .i64 0, .int .i64 t.opn, .int .i64 t.cls, v]) ∧ OpsT t 4 k ∧ (l = [] → t.opn = -1 ∧ t.levels = []) ∧ Vl w' (fun b => w.heap.size ≤ b ∧ b < w'.heap.size) t.levels v ∧ Below w.heap.size w w'

set_option maxRecDepth 100000 in
set_option maxHeartbeats 4000000 in
theorem operators_any (l : List Int) (A : Option Addr) (c : Nat) (S : Nat → Prop) (w : World) (hlc : l.length ≤ c) (hc : c ≤ 9223372036854775807) (hA : Els w S l A) (hS : ∀ b, S b → b < w.heap.size) :
    Calls Tryd.prog 29 #[.slice A l.length c] w (RetOps l w) := by
  obtain ⟨w0, hw0⟩ : ∃ w0 : World, w0 = ((w.alloc (.cells #[.slice A l.length c] 33)).alloc (.cells #[.int .i64 0, .int .i64 0, .int .i64 0, .int .i64 0, .slice none 0 0] 65)).alloc (.cells #[.int .i64 8, .int .i64 0, .int .i64 (-1), .int .i64 (-1), .slice none 0 0] 65) := ⟨_, rfl⟩
  have hb0 : Below w.heap.size w w0 := by rw [hw0]; exact (((Below.refl _ _).alloc (Nat.le_refl _) _).alloc (by simp) _).alloc (by simp; omega) _
  have hs0 : w0.heap.size = w.heap.size + 3 := by rw [hw0]; simp
  have H0 : Hid (OpH l A c w w0) := Lib.hid ⟨by rw [hw0]; exact ((Blk'.new w _ _).alloc _).alloc _, by rw [hw0]; exact (Blk'.new' _ _ _ (by simp)).alloc _, hb0, by omega⟩
  have HT0 : Hid (Blk' w0 (w.heap.size + 2) 65 #[.int .i64 8, .int .i64 0, .int .i64 (-1), .int .i64 (-1), .slice none 0 0]) := Lib.hid (by rw [hw0]; exact Blk'.new' _ _ _ (by simp))
  have HS0 := Lib.hid hs0
  have HW0 := Lib.hid hw0
  have HA := Lib.hid hA
  have HS := Lib.hid hS
  clear hw0 hb0 hs0 hA hS
  go_enter Tryd.func29, Tryd.ntmps29
  go_upto_region 3 with (fail)
  rw [← HW0.out]
  go_wp2_with fail
  refine (at_any l w.heap.size A c S 0 2 _ (by omega) (by omega) (by omega) (by omega) hlc hc H0.out.box (HA.out.belowB H0.out.bel HS.out)).mono ?_
  rintro e w1 ⟨r, hr0, hr2, hrl, rfl, rfl⟩
  have HRl := Lib.hid hrl
  clear hrl
  have zT := HT0.out.lt
  have fT2 := HT0.out.frozen 2
  have fT3 := HT0.out.frozen 3
  have cT2 : w0.cell? ⟨w.heap.size + 2, 2, none⟩ = some (.int .i64 (-1)) := HT0.out.cell 2
  have cT3 : w0.cell? ⟨w.heap.size + 2, 3, none⟩ = some (.int .i64 (-1)) := HT0.out.cell 3
  go_upto_if 12 with (fail)
  go_cut [12] (fun v wx => ∃ op cl : Int, ((op = -1 ∧ cl = -1) ∨ (op = 1 ∧ cl = 2)) ∧ (l = [] → op = -1) ∧ OpH l A c w wx ∧ Blk' wx (w.heap.size + 2) 65 #[.int .i64 8, .int .i64 0, .int .i64 op, .int .i64 cl, .slice none 0 0])
  case first =>
    by_cases hr : r = 1
    · subst hr
      have HE : Hid (OpH l A c w ((w0.setCell ⟨w.heap.size + 2, 2, none⟩ (.int .i64 1)).setCell ⟨w.heap.size + 2, 3, none⟩ (.int .i64 2)) ∧ Blk' ((w0.setCell ⟨w.heap.size + 2, 2, none⟩ (.int .i64 1)).setCell ⟨w.heap.size + 2, 3, none⟩ (.int .i64 2)) (w.heap.size + 2) 65 #[.int .i64 8, .int .i64 0, .int .i64 1, .int .i64 2, .slice none 0 0]) := Lib.hid ⟨H0.out.kept (((Kept.refl (fun b => b = w.heap.size + 2) w0).setCell (p := ⟨w.heap.size + 2, 2, none⟩) (.inl rfl) _).setCell (p := ⟨w.heap.size + 2, 3, none⟩) (.inl rfl) _) (fun b hb => by omega), (HT0.out.set_ 2 _).set_ 3 _⟩
      go_wp2
      go_meet
      exact ⟨1, 2, .inr ⟨rfl, rfl⟩, fun h => by have := HRl.out h; omega, HE.out.1, HE.out.2⟩
    · go_wp2
      go_meet
      exact ⟨-1, -1, .inl ⟨rfl, rfl⟩, fun _ => rfl, H0.out, HT0.out⟩
  case rest =>
  obtain ⟨op, cl, hoc, hop, hH2, hT2⟩ := hcut
  have HOc := Lib.hid (And.intro hoc hop)
  have H2 := Lib.hid hH2
  have HT2 := Lib.hid hT2
  clear hoc hop hH2 hT2 cT2 cT3 fT2 fT3 zT H0 HT0 HW0 HS0 HRl
  go_wp2_with fail
  refine (at_any l w.heap.size A c S 1 5 _ (by omega) (by omega) (by omega) (by omega) hlc hc H2.out.box (HA.out.belowB H2.out.bel HS.out)).mono ?_
  rintro e w2 ⟨rN, hN0, hN5, hNl, rfl, rfl⟩
  obtain ⟨N, rfl⟩ : ∃ N : Nat, rN = (N : Int) := ⟨rN.toNat, by omega⟩
  have HNl := Lib.hid hNl
  clear hNl
  go_wp2_with fail
  go_loopw [5, 17] (fun op i wr => OpO l A c w N op i wr) (fun _ i _ => N - (intOf i).toNat)
  case atStart => exact ⟨0, 0, ⟨8, 0, op, cl, []⟩, .slice none 0 0, Nat.zero_le _, rfl, rfl, ⟨rfl, rfl, HOc.out.1, by simp, rfl, by omega, by simp⟩, HOc.out.2, H2.out, HT2.out, Own.nil _ _ _ _⟩
  case round =>
    obtain ⟨wx, hwx⟩ : ∃ wx : World, wx = wr := ⟨_, rfl⟩
    subst hwx
    obtain ⟨j, k, t, v, hj, rfl, rfl, hO, hop2, hH, hT, hOw⟩ := hrel
    have HO := Lib.hid hO
    have Hop := Lib.hid hop2
    have HH := Lib.hid hH
    have HT := Lib.hid hT
    have HOw := Lib.hid hOw
    have hk5 := hO.k5
    have hsx := hH.size
    clear hO hop2 hH hT hOw H2 HT2
    by_cases hlt : j < N
    · have hj5 : (j : Int) < 5 := by omega
      have hj0 : (0 : Int) ≤ (j : Int) := by omega
      go_wp2_with fail
      refine (at_any l w.heap.size A c S _ 4 _ (by omega) (by omega) (by omega) (by omega) hlc hc HH.out.box (HA.out.belowB HH.out.bel HS.out)).mono ?_
      rintro e w3 ⟨kd, hk0, hk4, _, rfl, rfl⟩
      obtain ⟨w4, hw4⟩ : ∃ w4 : World, w4 = wx.alloc (.cells #[.int .i64 kd, .slice none 0 0] 120) := ⟨_, rfl⟩
      have hb4 : Below wx.heap.size wx w4 := by rw [hw4]; exact (Below.refl _ _).alloc (Nat.le_refl _) _
      have HX4 : Hid (Blk' w4 wx.heap.size 120 #[.int .i64 kd, .slice none 0 0]) := Lib.hid (by rw [hw4]; exact Blk'.new _ _ _)
      have HB4 := Lib.hid hb4
      have HW4 := Lib.hid hw4
      clear hw4 hb4
      go_upto_region 10 with (fail)
      rw [← HW4.out]
      go_wp2_with fail
      refine (at_any l w.heap.size A c S _ 2 _ (by omega) (by omega) (by omega) (by omega) hlc hc (HH.out.below HB4.out).box (HA.out.belowB (HH.out.below HB4.out).bel HS.out)).mono ?_
      rintro e w5 ⟨r2, hr0, hr2, _, rfl, rfl⟩
      obtain ⟨R, rfl⟩ : ∃ R : Nat, r2 = (R : Int) := ⟨r2.toNat, by omega⟩
      go_wp2_with fail
      go_loopw [5, 32] (fun op i wr => OpI wx kd k (R + 1) op i wr) (fun _ i _ => R + 1 - (intOf i).toNat)
      case atStart => exact ⟨0, 0, .slice none 0 0, by omega, by omega, by omega, rfl, by simp, HX4.out, Own.nil _ _ _ _, HB4.out⟩
      case round =>
        obtain ⟨wi, hwi⟩ : ∃ wi : World, wi = wr := ⟨_, rfl⟩
        subst hwi
        obtain ⟨i, q, vo, hi, hqi, hkq, rfl, rfl, hXi, hOi, hBi⟩ := hrel
        have HXi := Lib.hid hXi
        have HOi := Lib.hid hOi
        have HBi := Lib.hid hBi
        have x0 : wi.cell? ⟨wx.heap.size, 0, none⟩ = some (.int .i64 kd) := hXi.cell 0
        have x1 : wi.cell? ⟨wx.heap.size, 1, none⟩ = some vo := hXi.cell 1
        have fx := hXi.frozen 1
        have zx := hXi.lt
        obtain ⟨Ao, co, e1, _, _, _⟩ := hOi.form
        rw [runL_len] at e1
        subst e1
        clear hXi hOi hBi
        by_cases hlt2 : i < R + 1
        · have hi9 : (i : Int) < 1 + (R : Int) := by omega
          by_cases h8 : k + q < 5
          · have h88 : (k : Int) + (q : Int) + 3 < 8 := by omega
            have hI : I64 ((k : Int) + (q : Int) + 3) := by unfold I64; omega
            have HI := Lib.hid hI
            have HRn := Lib.hid (show runL (q + 1) (3 + (k : Int)) = runL q (3 + (k : Int)) ++ [(k : Int) + (q : Int) + 3] by rw [runL_snoc, show 3 + (k : Int) + (q : Int) = (k : Int) + (q : Int) + 3 from by omega])
            have HOa := Lib.hid (HOi.out.alloc (.cells #[.int .i64 ((k : Int) + (q : Int) + 3)] 3))
            have HXa := Lib.hid (HXi.out.alloc (.cells #[.int .i64 ((k : Int) + (q : Int) + 3)] 3))
            have HBa := Lib.hid (HBi.out.alloc HBi.out.size (.cells #[.int .i64 ((k : Int) + (q : Int) + 3)] 3))
            have HLn : Hid ((runL q (3 + (k : Int))).length = q) := Lib.hid (runL_len _ _)
            clear hI
            go_wp2_with (at_builtin; (refine wpList_own1 _ rfl _ _ elemInt rfl rfl HOa.out ((k : Int) + (q : Int) + 3) [.int .i64 ((k : Int) + (q : Int) + 3)] rfl (At.new wi _ _) ⟨rfl, HI.out⟩ (by rw [HLn.out]; omega) (by rw [HLn.out]; omega) (by have := HBa.out.size; simp; omega) ?_); (intro v9 w9 hown9 hg9 hat9); (obtain ⟨A9, k9, hv9, _⟩ := hown9.form); (rw [List.length_append, HLn.out] at hv9); (subst hv9); (have hX9 := HXa.out.grown hg9 (fun e => by have := (HOi.out.block _ e.symm).1; omega)); (have c9 := hX9.cell 1); (have f9 := hX9.frozen 1); (have z9 := hX9.lt); (have H9 := Lib.hid (And.intro hown9 (And.intro hg9 hX9))); (clear hown9 hg9 hat9 hX9); (simp at c9))
            go_roundw
            case rel => exact ⟨i + 1, q + 1, _, hlt2, by omega, by omega, by go_num, by go_num, H9.out.2.2.set_ 1 _, by
              have h := H9.out.1.setCell (p := ⟨wx.heap.size, 1, none⟩) (fun e => by have := (H9.out.1.block _ e).1; simp at this; omega) (by simp) (.slice A9 (q + 1) k9)
              rw [HRn.out]
              exact h, (HBa.out.grown H9.out.2.1 (by simp; omega) (fun b hb => by have := (HOi.out.block b hb).1; omega)).setCell (p := ⟨wx.heap.size, 1, none⟩) (Nat.le_refl _) _⟩
            case measure => simp [intOf]; omega
          · have h88 : ¬ (k : Int) + (q : Int) + 3 < 8 := by omega
            go_wp2_with fail
            go_roundw
            case rel => exact ⟨i + 1, q, _, hlt2, by omega, hkq, by go_num, rfl, HXi.out, HOi.out, HBi.out⟩
            case measure => simp [intOf]; omega
        · have hii : i = R + 1 := by omega
          have hHx : Hid (OpH l A c w wi) := Lib.hid (HH.out.kept (X := fun b => w.heap.size + 2 ≤ b) (Kept.of_below _ HBi.out) (fun b hb => hb))
          have HTi := Lib.hid (HT.out.below HBi.out (by omega))
          have HOwi := Lib.hid (HOw.out.below HBi.out (Nat.le_refl _))
          rcases Nat.eq_zero_or_pos q with hq | hq
          · subst hq
            have HSk := Lib.hid HO.out.skip
            clear hii
            go_wp2_with fail
            go_roundw
            case rel => exact ⟨j + 1, k, t, v, hlt, by go_num, by simp, HSk.out, Hop.out, hHx.out, HTi.out, HOwi.out⟩
            case measure => simp [intOf]; omega
          · have hq9 : (0 : Int) < (q : Int) := by omega
            obtain ⟨Av, cv, e1, _, _, _⟩ := HOw.out.form
            subst e1
            have hfew := HO.out.few
            have hI : I64 kd := by unfold I64; omega
            have HAd := Lib.hid (HO.out.add (l := ⟨kd, runL q (3 + (k : Int))⟩) (j := q) rfl hq (by omega) ⟨hk0, hk4⟩)
            have t4 : wi.cell? ⟨w.heap.size + 2, 4, none⟩ = some (.slice Av t.levels.length cv) := HTi.out.cell 4
            have zt := HTi.out.lt
            have HOa := Lib.hid (HOwi.out.alloc (.cells #[.int .i64 kd, .slice Ao q co] 120))
            have HTa := Lib.hid (HTi.out.alloc (.cells #[.int .i64 kd, .slice Ao q co] 120))
            have HBa := Lib.hid (HBi.out.alloc HBi.out.size (.cells #[.int .i64 kd, .slice Ao q co] 120))
            have HRd : Hid (Dat.rd (wi.alloc (.cells #[.int .i64 kd, .slice Ao q co] 120)) (OwnT (fun _ => False) (w.heap.size + 3) (.slice Av t.levels.length cv) (wi.alloc (.cells #[.int .i64 kd, .slice Ao q co] 120))) (⟨kd, runL q (3 + (k : Int))⟩ : Level) [.int .i64 kd, .slice Ao q co]) := Lib.hid ⟨_, rfl, hI, (HOi.out.alloc _).vl.mono (fun b hb => ⟨.inr (by have h1 := hb.1; simp at h1; omega), fun e1 => by have := (HOw.out.block _ e1).2; have h1 := hb.1; simp at h1; omega, hb.2⟩)⟩
            clear hii hI
            go_wp2_with (at_builtin; (refine wpList_own1 _ rfl _ _ elemLevel rfl rfl HOa.out (⟨kd, runL q (3 + (k : Int))⟩ : Level) [.int .i64 kd, .slice Ao q co] rfl (At.new wi _ _) HRd.out (by omega) (by omega) (by have := HBa.out.size; simp; omega) ?_); (intro v9 w9 hown9 hg9 hat9); (obtain ⟨A9, k9, hv9, _⟩ := hown9.form); (rw [List.length_append] at hv9); (subst hv9); (have hX9 := HTa.out.grown hg9 (fun e => by have := (HOw.out.block _ e.symm).1; omega)); (have c9 := hX9.cell 4); (have f9 := hX9.frozen 4); (have z9 := hX9.lt); (have H9 := Lib.hid (And.intro hown9 (And.intro hg9 hX9))); (clear hown9 hg9 hat9 hX9); (simp at c9))
            go_roundw
            case rel => exact ⟨j + 1, k + q, _, _, hlt, by go_num, by simp, HAd.out, Hop.out, HH.out.kept (X := fun b => w.heap.size + 2 ≤ b) (((Kept.of_below (fun b => w.heap.size + 2 ≤ b) HBa.out).grown H9.out.2.1 (fun b hb => .inl (by have := (HOw.out.block b hb).1; omega))).setCell (p := ⟨w.heap.size + 2, 4, none⟩) (.inl (Nat.le_refl _)) _) (fun b hb => hb), H9.out.2.2.set_ 4 _, H9.out.1.setCell (p := ⟨w.heap.size + 2, 4, none⟩) (fun e => by have h1 : w.heap.size + 3 ≤ w.heap.size + 2 := (H9.out.1.block _ e).1; omega) (by simp) _⟩
            case measure => simp [intOf]; omega
    · have hjj : j = N := by omega
      have t0 : wx.cell? ⟨w.heap.size + 2, 0, none⟩ = some (.int .i64 8) := HT.out.cell 0
      have t1 : wx.cell? ⟨w.heap.size + 2, 1, none⟩ = some (.int .i64 0) := HT.out.cell 1
      have t2 : wx.cell? ⟨w.heap.size + 2, 2, none⟩ = some (.int .i64 t.opn) := HT.out.cell 2
      have t3 : wx.cell? ⟨w.heap.size + 2, 3, none⟩ = some (.int .i64 t.cls) := HT.out.cell 3
      have t4 : wx.cell? ⟨w.heap.size + 2, 4, none⟩ = some v := HT.out.cell 4
      have zt := HT.out.lt
      have zr := HH.out.res.lt
      have r0 := HH.out.res.frozen 0
      have r1 := HH.out.res.frozen 1
      have r2 := HH.out.res.frozen 2
      have r3 := HH.out.res.frozen 3
      have r4 := HH.out.res.frozen 4
      have s0 : wx.cell? ⟨w.heap.size + 1, 0, none⟩ = some (.int .i64 0) := HH.out.res.cell 0
      have s1 : wx.cell? ⟨w.heap.size + 1, 1, none⟩ = some (.int .i64 0) := HH.out.res.cell 1
      have s2 : wx.cell? ⟨w.heap.size + 1, 2, none⟩ = some (.int .i64 0) := HH.out.res.cell 2
      have s3 : wx.cell? ⟨w.heap.size + 1, 3, none⟩ = some (.int .i64 0) := HH.out.res.cell 3
      have s4 : wx.cell? ⟨w.heap.size + 1, 4, none⟩ = some (.slice none 0 0) := HH.out.res.cell 4
      obtain ⟨Av, cv, e1, _, _, _⟩ := HOw.out.form
      subst e1
      obtain ⟨wF, hwF⟩ : ∃ wF : World, wF = (((((wx.setCell ⟨w.heap.size + 1, 0, none⟩ (.int .i64 8)).setCell ⟨w.heap.size + 1, 1, none⟩ (.int .i64 0)).setCell ⟨w.heap.size + 1, 2, none⟩ (.int .i64 t.opn)).setCell ⟨w.heap.size + 1, 3, none⟩ (.int .i64 t.cls)).setCell ⟨w.heap.size + 1, 4, none⟩ (.slice Av t.levels.length cv)) := ⟨_, rfl⟩
      have HK : Hid (Kept (fun b => b = w.heap.size + 1) wx wF) := Lib.hid (by rw [hwF]; exact ((((((Kept.refl (fun b => b = w.heap.size + 1) wx).setCell (p := ⟨w.heap.size + 1, 0, none⟩) (.inl rfl) _).setCell (p := ⟨w.heap.size + 1, 1, none⟩) (.inl rfl) _).setCell (p := ⟨w.heap.size + 1, 2, none⟩) (.inl rfl) _).setCell (p := ⟨w.heap.size + 1, 3, none⟩) (.inl rfl) _).setCell (p := ⟨w.heap.size + 1, 4, none⟩) (.inl rfl) _))
      have HR : Hid (Blk' wF (w.heap.size + 1) 65 #[.int .i64 8, .int .i64 0, .int .i64 t.opn, .int .i64 t.cls, .slice Av t.levels.length cv]) := Lib.hid (by rw [hwF]; exact ((((HH.out.res.set_ 0 _).set_ 1 _).set_ 2 _).set_ 3 _).set_ 4 _)
      have u0 : wF.cell? ⟨w.heap.size + 1, 0, none⟩ = some (.int .i64 8) := HR.out.cell 0
      have u1 : wF.cell? ⟨w.heap.size + 1, 1, none⟩ = some (.int .i64 0) := HR.out.cell 1
      have u2 : wF.cell? ⟨w.heap.size + 1, 2, none⟩ = some (.int .i64 t.opn) := HR.out.cell 2
      have u3 : wF.cell? ⟨w.heap.size + 1, 3, none⟩ = some (.int .i64 t.cls) := HR.out.cell 3
      have u4 : wF.cell? ⟨w.heap.size + 1, 4, none⟩ = some (.slice Av t.levels.length cv) := HR.out.cell 4
      have zF := HR.out.lt
      have HVl := Lib.hid (((HOw.out.kept HK.out (fun b hb h => h.elim id (fun h => by have h1 : b = w.heap.size + 1 := hb; omega))).vl).mono (S' := fun b => w.heap.size ≤ b ∧ b < wF.heap.size) (fun b hb => ⟨by have h1 := hb.1; simp at h1; omega, hb.2⟩))
      have HBe := Lib.hid (bthen HH.out.bel (HK.out.to_below (B := w.heap.size) (fun b hb => by omega) (by omega)) (Nat.le_refl _))
      have HWF := Lib.hid hwF
      have HO4 : Hid (OpsT t 4 k) := Lib.hid ⟨HO.out.terms, HO.out.atom, HO.out.br, by have := HO.out.few; omega, HO.out.run, HO.out.k5, HO.out.kinds⟩
      have HNo : Hid (l = [] → t.opn = -1 ∧ t.levels = []) := Lib.hid (fun h => ⟨Hop.out h, List.eq_nil_of_length_eq_zero (by have h1 := HNl.out h; have := HO.out.few; omega)⟩)
      clear hjj hwF
      go_wp2_with fail
      rw [← HWF.out]
      refine bodyPost_ret (v := .agg #[.int .i64 8, .int .i64 0, .int .i64 t.opn, .int .i64 t.cls, .slice Av t.levels.length cv]) (by simp [results, Tryd.results29, go_sem, u0, u1, u2, u3, u4]) rfl ?_
      exact ⟨t, _, k, rfl, HO4.out, HNo.out, HVl.out, HBe.out⟩
end Go.Proofs.YtjdojogjogenkaaDoor

