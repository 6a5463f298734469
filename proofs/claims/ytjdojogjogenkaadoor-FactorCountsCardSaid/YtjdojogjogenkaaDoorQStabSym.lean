/- Contract: slices.symMergeCmpFunc at packs with core.Build$1: a permutation. -/
import Derived.Test.YtjdojogjogenkaaDoorQw1
import Derived.Deep.Cut
import Derived.Deep.DeepCutAuto
namespace Go.Proofs.YtjdojogjogenkaaDoor
open Go.RowKit
set_option linter.unusedVariables false
def SymMgOk (g cap N : Nat) : Prop := ∀ (w : World) (ps : List PkV) (a m b : Nat), b - a < N → ps.length < 4611686018427387904 → RowF w g ps → CmpOk w g ps → a < m → m < b → b ≤ ps.length →
 Calls Tryd.prog 181 #[.slice (some ⟨g, 0, none⟩) ps.length cap, .int .i64 a, .int .i64 m, .int .i64 b, .func (.func 132) #[] #[]] w (RetPm w g ps)
set_option maxRecDepth 100000 in
set_option maxHeartbeats 1000000 in
theorem symF_one (w : World) (ps : List PkV) (g cap a m b : Nat) (hN : ps.length < 4611686018427387904) (hR : RowF w g ps) (hC : CmpOk w g ps) (hma : m - a = 1) (ham : a < m) (hmb : m < b) (hb : b ≤ ps.length) :
  Calls Tryd.prog 181 #[.slice (some ⟨g, 0, none⟩) ps.length cap, .int .i64 a, .int .i64 m, .int .i64 b, .func (.func 132) #[] #[]] w (RetPm w g ps) := by
 have HR := Lib.hid hR
 have HCm := Lib.hid hC
 clear hR hC
 have hw0 : IntKind.i64.wrap ((m : Int) - (a : Int)) = ((m - a : Nat) : Int) := by rw [← Int.natCast_sub (by omega)]; exact IntWalk.i64_in _ (by omega)
 rw [hma] at hw0
 go_enter Tryd.func181, Tryd.ntmps181
 go_wp2_with fail
 go_loopw [10, 11, 12] (fun v u x wr => ∃ (i j : Nat), m ≤ i ∧ i ≤ j ∧ j ≤ b ∧ v = .int .i64 i ∧ u = .int .i64 j ∧ RowF wr g ps ∧ Kept (fun b => b = g) w wr) (fun v u _ _ => (intOf u).toNat - (intOf v).toNat)
 case atStart => exact ⟨m, b, Nat.le_refl _, by omega, Nat.le_refl _, rfl, rfl, HR.out, Kept.refl _ _⟩
 case round =>
  obtain ⟨wo, hwo⟩ : ∃ wo : World, wo = wr := ⟨_, rfl⟩
  subst hwo
  obtain ⟨i, j, hmi, hij, hjb, rfl, rfl, hRo, hKo⟩ := hrel
  have HO := Lib.hid (And.intro hRo hKo)
  clear hRo hKo
  by_cases hlt : i < j
  ·skip
   have hlt' : (i : Int) < (j : Int) := by omega
   obtain ⟨s, hs⟩ : ∃ s : Nat, s = i + j := ⟨_, rfl⟩
   obtain ⟨h, hh⟩ : ∃ h : Nat, h = s / 2 := ⟨_, rfl⟩
   have hws : IntKind.i64.wrap ((i : Int) + (j : Int)) = (s : Int) := by rw [← Int.natCast_add, ← hs]; exact IntWalk.i64_in _ (by omega)
   have hu : IntKind.u64.wrap (s : Int) = (s : Int) := by unfold IntKind.wrap; simp [IntKind.signed, IntKind.bits]; omega
   have hsd : (s : Int) / 2 = (h : Int) := by omega
   have hih : i ≤ h ∧ h < j := by omega
   have hwh : IntKind.i64.wrap ((h : Int) + 1) = ((h + 1 : Nat) : Int) := IntWalk.i64_in _ (by omega)
   clear hs hh
   obtain ⟨p, hp⟩ := get_some (show h < ps.length by omega)
   obtain ⟨q, hq⟩ := get_some (show a < ps.length by omega)
   have p0 := HO.out.1.cell0 hp
   have p1 := HO.out.1.cell1 hp
   have q0 := HO.out.1.cell0 hq
   have q1 := HO.out.1.cell1 hq
   have zg : g < wo.heap.size := HO.out.1.lt
   have x0 : (0 : Int) ≤ (h : Int) := by omega
   have x1 : (h : Int) < (ps.length : Int) := by omega
   have y0 : (0 : Int) ≤ (a : Int) := by omega
   have y1 : (a : Int) < (ps.length : Int) := by omega
   have HC := Lib.hid (HCm.out p (List.mem_of_getElem? hp) q (List.mem_of_getElem? hq) wo.drew HO.out.2.drew)
   clear hp hq
   go_wp2_with fail
   refine wp_region_noPanic ?_
   refine wp_region_held_drew (S := (fun w' => w'.cell? ⟨g, h * 2, none⟩ = some (.int .i64 p.r) ∧ w'.cell? ⟨g, h * 2 + 1, none⟩ = some (.slice p.a p.n p.c) ∧ w'.cell? ⟨g, a * 2, none⟩ = some (.int .i64 q.r) ∧ w'.cell? ⟨g, a * 2 + 1, none⟩ = some (.slice q.a q.n q.c))) (by kernel_rfl) ?hb (fun hHeld => ?bb)
   case hb => ((try dsimp only); go_keep)
   refine take_run (i := 0) (v := ?vb0) rfl (by kernel_rfl) (by kernel_rfl) (by kernel_rfl) (fun _ _ _ h => h) (by rfl) ?yb0 (by assumption) ?rb0
   case yb0 => (intro w hSw; (try dsimp only at hSw); go_simp; try with_reducible rfl)
   try simp only [Act.put, List.setIfInBounds_toArray, List.set_cons_zero, List.set_cons_succ]
   refine take_run (i := 1) (v := ?vb1) rfl (by kernel_rfl) (by kernel_rfl) (by kernel_rfl) (fun _ _ _ h => h) (by rfl) ?yb1 (by assumption) ?rb1
   case yb1 => (intro w hSw; (try dsimp only at hSw); go_simp; try with_reducible rfl)
   try simp only [Act.put, List.setIfInBounds_toArray, List.set_cons_zero, List.set_cons_succ]
   refine take_run (i := 2) (v := ?vb2) rfl (by kernel_rfl) (by kernel_rfl) (by kernel_rfl) (fun _ _ _ h => h) (by rfl) ?yb2 (by assumption) ?rb2
   case yb2 => (intro w hSw; (try dsimp only at hSw); go_simp; try with_reducible rfl)
   try simp only [Act.put, List.setIfInBounds_toArray, List.set_cons_zero, List.set_cons_succ]
   refine take_run (i := 3) (v := ?vb3) rfl (by kernel_rfl) (by kernel_rfl) (by kernel_rfl) (fun _ _ _ h => h) (by rfl) ?yb3 (by assumption) ?rb3
   case yb3 => (intro w hSw; (try dsimp only at hSw); go_simp; try with_reducible rfl)
   try simp only [Act.put, List.setIfInBounds_toArray, List.set_cons_zero, List.set_cons_succ]
   refine take_run (i := 4) (v := ?vb4) rfl (by kernel_rfl) (by kernel_rfl) (by kernel_rfl) (fun _ _ _ h => h) (by rfl) ?yb4 (by assumption) ?rb4
   case yb4 => (intro w hSw; (try dsimp only at hSw); go_simp; try with_reducible rfl)
   try simp only [Act.put, List.setIfInBounds_toArray, List.set_cons_zero, List.set_cons_succ]
   refine take_run (i := 5) (v := ?vb5) rfl (by kernel_rfl) (by kernel_rfl) (by kernel_rfl) (fun _ _ _ h => h) (by rfl) ?yb5 (by assumption) ?rb5
   case yb5 => (intro w hSw; (try dsimp only at hSw); go_simp; try with_reducible rfl)
   try simp only [Act.put, List.setIfInBounds_toArray, List.set_cons_zero, List.set_cons_succ]
   refine take_run (i := 6) (v := ?vb6) rfl (by kernel_rfl) (by kernel_rfl) (by kernel_rfl) (fun _ _ _ h => h) (by rfl) ?yb6 (by assumption) ?rb6
   case yb6 => (intro w hSw; (try dsimp only at hSw); go_simp; try with_reducible rfl)
   try simp only [Act.put, List.setIfInBounds_toArray, List.set_cons_zero, List.set_cons_succ]
   refine take_run (i := 7) (v := ?vb7) rfl (by kernel_rfl) (by kernel_rfl) (by kernel_rfl) (fun _ _ _ h => h) (by rfl) ?yb7 (by assumption) ?rb7
   case yb7 => (intro w hSw; (try dsimp only at hSw); go_simp; try with_reducible rfl)
   try simp only [Act.put, List.setIfInBounds_toArray, List.set_cons_zero, List.set_cons_succ]
   refine take_run (i := 8) (v := ?vb8) rfl (by kernel_rfl) (by kernel_rfl) (by kernel_rfl) (fun _ _ _ h => h) (by rfl) ?yb8 (by assumption) ?rb8
   case yb8 => (intro w hSw; (try dsimp only at hSw); go_simp; try with_reducible rfl)
   try simp only [Act.put, List.setIfInBounds_toArray, List.set_cons_zero, List.set_cons_succ]
   refine take_call (i := 9) rfl (by kernel_rfl) (by rfl) (fun Kq hK => ?_)
   go_simp
   go_at_call 132
   refine HC.out.mono ?_
   rintro e w1 ⟨⟨k, rfl⟩, hb1⟩
   have HB1 := Lib.hid (bundrew hb1)
   have n0 := (HB1.out.cell (p := ⟨g, h * 2, none⟩) zg).trans p0
   have n1 := (HB1.out.cell (p := ⟨g, h * 2 + 1, none⟩) zg).trans p1
   have n2 := (HB1.out.cell (p := ⟨g, a * 2, none⟩) zg).trans q0
   have n3 := (HB1.out.cell (p := ⟨g, a * 2 + 1, none⟩) zg).trans q1
   clear hb1
   refine hK.out _ _ ?hb9 (fun hHeld => ?rb9)
   case hb9 => ((try dsimp only); go_keep)
   clear hK Kq
   try simp only [Act.put, List.setIfInBounds_toArray, List.set_cons_zero, List.set_cons_succ]
   refine take_run (i := 10) (v := ?vb10) rfl (by kernel_rfl) (by kernel_rfl) (by kernel_rfl) (fun _ _ _ h => h) (by rfl) ?yb10 (by assumption) ?rb10
   case yb10 => (intro w hSw; (try dsimp only at hSw); go_simp; try with_reducible rfl)
   try simp only [Act.put, List.setIfInBounds_toArray, List.set_cons_zero, List.set_cons_succ]
   refine wpAnyH_done (by kernel_rfl) ?_ _
   refine NoPanic.normal ?_
   by_cases hc1 : k < 0
   ·go_wp2_with fail
    go_roundw
    case rel => exact ⟨h + 1, j, by omega, by omega, hjb, by go_num, rfl, HO.out.1.below HB1.out, HO.out.2.below HB1.out⟩
    case measure => simp [intOf]; omega
   ·go_wp2_with fail
    go_roundw
    case rel => exact ⟨i, h, by omega, by omega, by omega, rfl, rfl, HO.out.1.below HB1.out, HO.out.2.below HB1.out⟩
    case measure => simp [intOf]; omega
  ·have hlt' : ¬ (i : Int) < (j : Int) := by omega
   obtain ⟨e, he⟩ : ∃ e : Nat, e + 1 = i := ⟨i - 1, by omega⟩
   have hwe : IntKind.i64.wrap ((i : Int) - 1) = (e : Int) := by rw [show (i : Int) - 1 = (e : Int) by omega]; exact IntWalk.i64_in _ (by omega)
   have hab : a ≤ e ∧ e < b := by omega
   clear he
   go_wp2_with fail
   go_loopw [13] (fun v wr => ∃ (l : Nat) (qs : List PkV), a ≤ l ∧ l ≤ e ∧ v = .int .i64 l ∧ RowF wr g qs ∧ qs.Perm ps ∧ Kept (fun b => b = g) w wr) (fun v _ => e - (intOf v).toNat)
   case atStart => exact ⟨a, ps, Nat.le_refl _, hab.1, rfl, HO.out.1, List.Perm.refl _, HO.out.2⟩
   case round =>
    clear HO
    obtain ⟨wo, hwo⟩ : ∃ wo : World, wo = wr := ⟨_, rfl⟩
    subst hwo
    obtain ⟨l, qs, hal, hle, rfl, hRo, hPo, hKo⟩ := hrel
    have hql := hPo.length_eq
    have HO := Lib.hid (And.intro hRo (And.intro hPo hKo))
    clear hRo hPo hKo
    by_cases hlt2 : l < e
    ·have hlt2' : (l : Int) < (e : Int) := by omega
     obtain ⟨r, hr⟩ : ∃ r : Nat, r = l + 1 := ⟨_, rfl⟩
     have hwr : IntKind.i64.wrap ((l : Int) + 1) = (r : Int) := by rw [hr]; exact IntWalk.i64_in _ (by omega)
     have hlr : l < r ∧ r ≤ e ∧ a ≤ r := by omega
     obtain ⟨p, hp⟩ := get_some (show l < qs.length by omega)
     obtain ⟨q, hq⟩ := get_some (show r < qs.length by omega)
     have p0 := HO.out.1.cell0 hp
     have p1 := HO.out.1.cell1 hp
     have q0 := HO.out.1.cell0 hq
     have q1 := HO.out.1.cell1 hq
     have p0f := HO.out.1.frozen (l * 2)
     have p1f := HO.out.1.frozen (l * 2 + 1)
     have q0f := HO.out.1.frozen (r * 2)
     have q1f := HO.out.1.frozen (r * 2 + 1)
     have x0 : (0 : Int) ≤ (l : Int) := by omega
     have x1 : (l : Int) < (ps.length : Int) := by omega
     have y0 : (0 : Int) ≤ (r : Int) := by omega
     have y1 : (r : Int) < (ps.length : Int) := by omega
     have HX := Lib.hid (show RowF ((((wo.setCell ⟨g, l * 2, none⟩ (.int .i64 q.r)).setCell ⟨g, l * 2 + 1, none⟩ (.slice q.a q.n q.c)).setCell ⟨g, r * 2, none⟩ (.int .i64 p.r)).setCell ⟨g, r * 2 + 1, none⟩ (.slice p.a p.n p.c)) g ((qs.set l q).set r p) ∧ ((qs.set l q).set r p).Perm ps ∧ Kept (fun b => b = g) w wo from ⟨(HO.out.1.set_ _ q).set_ _ p, (fswap_perm hp hq).trans HO.out.2.1, HO.out.2.2⟩)
     have e0 : ¬ l = r := by omega
     have e1 : ¬ r = l := by omega
     have e2 : ¬ l * 2 = r * 2 := by omega
     have e3 : ¬ r * 2 = l * 2 := by omega
     have e4 : ¬ l * 2 = r * 2 + 1 := by omega
     have e5 : ¬ r * 2 = l * 2 + 1 := by omega
     have e6 : ¬ l * 2 + 1 = r * 2 := by omega
     have e7 : ¬ r * 2 + 1 = l * 2 := by omega
     clear hp hq
     clear hr
     go_wp2_with fail
     go_region
     go_wp2_with fail
     go_roundw
     case rel => exact ⟨r, _, hlr.2.2, hlr.2.1, rfl, HX.out.1.below ((Below.refl _ _).drew), HX.out.2.1, (pair_kept (pair_kept HX.out.2.2)).drew⟩
     case measure => simp [intOf]; omega
    ·have hlt2' : ¬ (l : Int) < (e : Int) := by omega
     go_wp2_with fail
     go_end0
     exact ⟨rfl, qs, HO.out⟩
set_option maxRecDepth 100000 in
set_option maxHeartbeats 1000000 in
theorem symF_two (w : World) (ps : List PkV) (g cap a m b : Nat) (hN : ps.length < 4611686018427387904) (hR : RowF w g ps) (hC : CmpOk w g ps) (hma : ¬ m - a = 1) (hmb1 : b - m = 1) (ham : a < m) (hmb : m < b) (hb : b ≤ ps.length) :
  Calls Tryd.prog 181 #[.slice (some ⟨g, 0, none⟩) ps.length cap, .int .i64 a, .int .i64 m, .int .i64 b, .func (.func 132) #[] #[]] w (RetPm w g ps) := by
 have HR := Lib.hid hR
 have HCm := Lib.hid hC
 clear hR hC
 have hw0 : IntKind.i64.wrap ((m : Int) - (a : Int)) = ((m - a : Nat) : Int) := by rw [← Int.natCast_sub (by omega)]; exact IntWalk.i64_in _ (by omega)
 obtain ⟨d, hd⟩ : ∃ d : Nat, d = m - a := ⟨_, rfl⟩
 rw [← hd] at hw0
 have hd1 : ¬ (d : Int) = 1 := by omega
 have hd1d : ((d : Int) == 1) = false := by simp; omega
 obtain ⟨d2, hdd⟩ : ∃ d2 : Nat, d2 = b - m := ⟨_, rfl⟩
 rw [← hdd] at hmb1
 have hw1 : IntKind.i64.wrap ((b : Int) - (m : Int)) = (d2 : Int) := by rw [← Int.natCast_sub (by omega), ← hdd]; exact IntWalk.i64_in _ (by omega)
 subst hmb1
 clear hd hdd
 go_enter Tryd.func181, Tryd.ntmps181
 go_wp2_with fail
 go_loopw [14, 15, 16] (fun v u x wr => ∃ (i j : Nat), a ≤ i ∧ i ≤ j ∧ j ≤ m ∧ v = .int .i64 i ∧ u = .int .i64 j ∧ RowF wr g ps ∧ Kept (fun b => b = g) w wr) (fun v u _ _ => (intOf u).toNat - (intOf v).toNat)
 case atStart => exact ⟨a, m, Nat.le_refl _, by omega, Nat.le_refl _, rfl, rfl, HR.out, Kept.refl _ _⟩
 case round =>
  obtain ⟨wo, hwo⟩ : ∃ wo : World, wo = wr := ⟨_, rfl⟩
  subst hwo
  obtain ⟨i, j, hmi, hij, hjb, rfl, rfl, hRo, hKo⟩ := hrel
  have HO := Lib.hid (And.intro hRo hKo)
  clear hRo hKo
  by_cases hlt : i < j
  ·skip
   have hlt' : (i : Int) < (j : Int) := by omega
   obtain ⟨s, hs⟩ : ∃ s : Nat, s = i + j := ⟨_, rfl⟩
   obtain ⟨h, hh⟩ : ∃ h : Nat, h = s / 2 := ⟨_, rfl⟩
   have hws : IntKind.i64.wrap ((i : Int) + (j : Int)) = (s : Int) := by rw [← Int.natCast_add, ← hs]; exact IntWalk.i64_in _ (by omega)
   have hu : IntKind.u64.wrap (s : Int) = (s : Int) := by unfold IntKind.wrap; simp [IntKind.signed, IntKind.bits]; omega
   have hsd : (s : Int) / 2 = (h : Int) := by omega
   have hih : i ≤ h ∧ h < j := by omega
   have hwh : IntKind.i64.wrap ((h : Int) + 1) = ((h + 1 : Nat) : Int) := IntWalk.i64_in _ (by omega)
   clear hs hh
   obtain ⟨p, hp⟩ := get_some (show m < ps.length by omega)
   obtain ⟨q, hq⟩ := get_some (show h < ps.length by omega)
   have p0 := HO.out.1.cell0 hp
   have p1 := HO.out.1.cell1 hp
   have q0 := HO.out.1.cell0 hq
   have q1 := HO.out.1.cell1 hq
   have zg : g < wo.heap.size := HO.out.1.lt
   have x0 : (0 : Int) ≤ (m : Int) := by omega
   have x1 : (m : Int) < (ps.length : Int) := by omega
   have y0 : (0 : Int) ≤ (h : Int) := by omega
   have y1 : (h : Int) < (ps.length : Int) := by omega
   have HC := Lib.hid (HCm.out p (List.mem_of_getElem? hp) q (List.mem_of_getElem? hq) wo.drew HO.out.2.drew)
   clear hp hq
   go_wp2_with fail
   refine wp_region_noPanic ?_
   refine wp_region_held_drew (S := (fun w' => w'.cell? ⟨g, m * 2, none⟩ = some (.int .i64 p.r) ∧ w'.cell? ⟨g, m * 2 + 1, none⟩ = some (.slice p.a p.n p.c) ∧ w'.cell? ⟨g, h * 2, none⟩ = some (.int .i64 q.r) ∧ w'.cell? ⟨g, h * 2 + 1, none⟩ = some (.slice q.a q.n q.c))) (by kernel_rfl) ?hd (fun hHeld => ?bd)
   case hd => ((try dsimp only); go_keep)
   refine take_run (i := 0) (v := ?vd0) rfl (by kernel_rfl) (by kernel_rfl) (by kernel_rfl) (fun _ _ _ h => h) (by rfl) ?yd0 (by assumption) ?rd0
   case yd0 => (intro w hSw; (try dsimp only at hSw); go_simp; try with_reducible rfl)
   try simp only [Act.put, List.setIfInBounds_toArray, List.set_cons_zero, List.set_cons_succ]
   refine take_run (i := 1) (v := ?vd1) rfl (by kernel_rfl) (by kernel_rfl) (by kernel_rfl) (fun _ _ _ h => h) (by rfl) ?yd1 (by assumption) ?rd1
   case yd1 => (intro w hSw; (try dsimp only at hSw); go_simp; try with_reducible rfl)
   try simp only [Act.put, List.setIfInBounds_toArray, List.set_cons_zero, List.set_cons_succ]
   refine take_run (i := 2) (v := ?vd2) rfl (by kernel_rfl) (by kernel_rfl) (by kernel_rfl) (fun _ _ _ h => h) (by rfl) ?yd2 (by assumption) ?rd2
   case yd2 => (intro w hSw; (try dsimp only at hSw); go_simp; try with_reducible rfl)
   try simp only [Act.put, List.setIfInBounds_toArray, List.set_cons_zero, List.set_cons_succ]
   refine take_run (i := 3) (v := ?vd3) rfl (by kernel_rfl) (by kernel_rfl) (by kernel_rfl) (fun _ _ _ h => h) (by rfl) ?yd3 (by assumption) ?rd3
   case yd3 => (intro w hSw; (try dsimp only at hSw); go_simp; try with_reducible rfl)
   try simp only [Act.put, List.setIfInBounds_toArray, List.set_cons_zero, List.set_cons_succ]
   refine take_run (i := 4) (v := ?vd4) rfl (by kernel_rfl) (by kernel_rfl) (by kernel_rfl) (fun _ _ _ h => h) (by rfl) ?yd4 (by assumption) ?rd4
   case yd4 => (intro w hSw; (try dsimp only at hSw); go_simp; try with_reducible rfl)
   try simp only [Act.put, List.setIfInBounds_toArray, List.set_cons_zero, List.set_cons_succ]
   refine take_run (i := 5) (v := ?vd5) rfl (by kernel_rfl) (by kernel_rfl) (by kernel_rfl) (fun _ _ _ h => h) (by rfl) ?yd5 (by assumption) ?rd5
   case yd5 => (intro w hSw; (try dsimp only at hSw); go_simp; try with_reducible rfl)
   try simp only [Act.put, List.setIfInBounds_toArray, List.set_cons_zero, List.set_cons_succ]
   refine take_run (i := 6) (v := ?vd6) rfl (by kernel_rfl) (by kernel_rfl) (by kernel_rfl) (fun _ _ _ h => h) (by rfl) ?yd6 (by assumption) ?rd6
   case yd6 => (intro w hSw; (try dsimp only at hSw); go_simp; try with_reducible rfl)
   try simp only [Act.put, List.setIfInBounds_toArray, List.set_cons_zero, List.set_cons_succ]
   refine take_run (i := 7) (v := ?vd7) rfl (by kernel_rfl) (by kernel_rfl) (by kernel_rfl) (fun _ _ _ h => h) (by rfl) ?yd7 (by assumption) ?rd7
   case yd7 => (intro w hSw; (try dsimp only at hSw); go_simp; try with_reducible rfl)
   try simp only [Act.put, List.setIfInBounds_toArray, List.set_cons_zero, List.set_cons_succ]
   refine take_run (i := 8) (v := ?vd8) rfl (by kernel_rfl) (by kernel_rfl) (by kernel_rfl) (fun _ _ _ h => h) (by rfl) ?yd8 (by assumption) ?rd8
   case yd8 => (intro w hSw; (try dsimp only at hSw); go_simp; try with_reducible rfl)
   try simp only [Act.put, List.setIfInBounds_toArray, List.set_cons_zero, List.set_cons_succ]
   refine take_call (i := 9) rfl (by kernel_rfl) (by rfl) (fun Kq hK => ?_)
   go_simp
   go_at_call 132
   refine HC.out.mono ?_
   rintro e w1 ⟨⟨k, rfl⟩, hb1⟩
   have HB1 := Lib.hid (bundrew hb1)
   have n0 := (HB1.out.cell (p := ⟨g, m * 2, none⟩) zg).trans p0
   have n1 := (HB1.out.cell (p := ⟨g, m * 2 + 1, none⟩) zg).trans p1
   have n2 := (HB1.out.cell (p := ⟨g, h * 2, none⟩) zg).trans q0
   have n3 := (HB1.out.cell (p := ⟨g, h * 2 + 1, none⟩) zg).trans q1
   clear hb1
   refine hK.out _ _ ?hd9 (fun hHeld => ?rd9)
   case hd9 => ((try dsimp only); go_keep)
   clear hK Kq
   try simp only [Act.put, List.setIfInBounds_toArray, List.set_cons_zero, List.set_cons_succ]
   refine take_run (i := 10) (v := ?vd10) rfl (by kernel_rfl) (by kernel_rfl) (by kernel_rfl) (fun _ _ _ h => h) (by rfl) ?yd10 (by assumption) ?rd10
   case yd10 => (intro w hSw; (try dsimp only at hSw); go_simp; try with_reducible rfl)
   try simp only [Act.put, List.setIfInBounds_toArray, List.set_cons_zero, List.set_cons_succ]
   refine take_run (i := 11) (v := ?vd11) rfl (by kernel_rfl) (by kernel_rfl) (by kernel_rfl) (fun _ _ _ h => h) (by rfl) ?yd11 (by assumption) ?rd11
   case yd11 => (intro w hSw; (try dsimp only at hSw); go_simp; try with_reducible rfl)
   try simp only [Act.put, List.setIfInBounds_toArray, List.set_cons_zero, List.set_cons_succ]
   refine wpAnyH_done (by kernel_rfl) ?_ _
   refine NoPanic.normal ?_
   generalize (!decide (k < 0)) = nb
   cases nb
   ·go_wp2_with fail
    go_roundw
    case rel => exact ⟨i, h, by omega, by omega, by omega, rfl, rfl, HO.out.1.below HB1.out, HO.out.2.below HB1.out⟩
    case measure => simp [intOf]; omega
   ·go_wp2_with fail
    go_roundw
    case rel => exact ⟨h + 1, j, by omega, by omega, hjb, by go_num, rfl, HO.out.1.below HB1.out, HO.out.2.below HB1.out⟩
    case measure => simp [intOf]; omega
  ·have hlt' : ¬ (i : Int) < (j : Int) := by omega
   go_wp2_with fail
   go_loopw [17] (fun v wr => ∃ (l : Nat) (qs : List PkV), i ≤ l ∧ l ≤ m ∧ v = .int .i64 l ∧ RowF wr g qs ∧ qs.Perm ps ∧ Kept (fun b => b = g) w wr) (fun v _ => (intOf v).toNat)
   case atStart => exact ⟨m, ps, by omega, Nat.le_refl _, rfl, HO.out.1, List.Perm.refl _, HO.out.2⟩
   case round =>
    clear HO
    obtain ⟨wo, hwo⟩ : ∃ wo : World, wo = wr := ⟨_, rfl⟩
    subst hwo
    obtain ⟨l, qs, hal, hle, rfl, hRo, hPo, hKo⟩ := hrel
    have hql := hPo.length_eq
    have HO := Lib.hid (And.intro hRo (And.intro hPo hKo))
    clear hRo hPo hKo
    by_cases hlt2 : i < l
    ·have hlt2' : (i : Int) < (l : Int) := by omega
     obtain ⟨r, hr⟩ : ∃ r : Nat, r + 1 = l := ⟨l - 1, by omega⟩
     have hwr : IntKind.i64.wrap ((l : Int) - 1) = (r : Int) := by rw [show (l : Int) - 1 = (r : Int) by omega]; exact IntWalk.i64_in _ (by omega)
     have hlr : r < l ∧ r ≤ m ∧ i ≤ r := by omega
     obtain ⟨p, hp⟩ := get_some (show l < qs.length by omega)
     obtain ⟨q, hq⟩ := get_some (show r < qs.length by omega)
     have p0 := HO.out.1.cell0 hp
     have p1 := HO.out.1.cell1 hp
     have q0 := HO.out.1.cell0 hq
     have q1 := HO.out.1.cell1 hq
     have p0f := HO.out.1.frozen (l * 2)
     have p1f := HO.out.1.frozen (l * 2 + 1)
     have q0f := HO.out.1.frozen (r * 2)
     have q1f := HO.out.1.frozen (r * 2 + 1)
     have x0 : (0 : Int) ≤ (l : Int) := by omega
     have x1 : (l : Int) < (ps.length : Int) := by omega
     have y0 : (0 : Int) ≤ (r : Int) := by omega
     have y1 : (r : Int) < (ps.length : Int) := by omega
     have HX := Lib.hid (show RowF ((((wo.setCell ⟨g, l * 2, none⟩ (.int .i64 q.r)).setCell ⟨g, l * 2 + 1, none⟩ (.slice q.a q.n q.c)).setCell ⟨g, r * 2, none⟩ (.int .i64 p.r)).setCell ⟨g, r * 2 + 1, none⟩ (.slice p.a p.n p.c)) g ((qs.set l q).set r p) ∧ ((qs.set l q).set r p).Perm ps ∧ Kept (fun b => b = g) w wo from ⟨(HO.out.1.set_ _ q).set_ _ p, (fswap_perm hp hq).trans HO.out.2.1, HO.out.2.2⟩)
     have e0 : ¬ l = r := by omega
     have e1 : ¬ r = l := by omega
     have e2 : ¬ l * 2 = r * 2 := by omega
     have e3 : ¬ r * 2 = l * 2 := by omega
     have e4 : ¬ l * 2 = r * 2 + 1 := by omega
     have e5 : ¬ r * 2 = l * 2 + 1 := by omega
     have e6 : ¬ l * 2 + 1 = r * 2 := by omega
     have e7 : ¬ r * 2 + 1 = l * 2 := by omega
     clear hp hq
     clear hr
     go_wp2_with fail
     go_region
     go_wp2_with fail
     go_roundw
     case rel => exact ⟨r, _, hlr.2.2, hlr.2.1, rfl, HX.out.1.below ((Below.refl _ _).drew), HX.out.2.1, (pair_kept (pair_kept HX.out.2.2)).drew⟩
     case measure => simp [intOf]; omega
    ·have hlt2' : ¬ (i : Int) < (l : Int) := by omega
     go_wp2_with fail
     go_end0
     exact ⟨rfl, qs, HO.out⟩
set_option maxRecDepth 100000 in
set_option maxHeartbeats 1000000 in
theorem symF_gen (w : World) (ps : List PkV) (g cap a m b N : Nat) (hI : SymMgOk g cap N) (hN' : b - a ≤ N) (hN : ps.length < 4611686018427387904) (hR : RowF w g ps) (hC : CmpOk w g ps) (hma : ¬ m - a = 1) (hmb1 : ¬ b - m = 1) (ham : a < m) (hmb : m < b) (hb : b ≤ ps.length) :
  Calls Tryd.prog 181 #[.slice (some ⟨g, 0, none⟩) ps.length cap, .int .i64 a, .int .i64 m, .int .i64 b, .func (.func 132) #[] #[]] w (RetPm w g ps) := by
 have HI := Lib.hid hI
 clear hI
 have HR := Lib.hid hR
 have HCm := Lib.hid hC
 clear hR hC
 have hw0 : IntKind.i64.wrap ((m : Int) - (a : Int)) = ((m - a : Nat) : Int) := by rw [← Int.natCast_sub (by omega)]; exact IntWalk.i64_in _ (by omega)
 obtain ⟨d, hd⟩ : ∃ d : Nat, d = m - a := ⟨_, rfl⟩
 rw [← hd] at hw0
 have hd1 : ¬ (d : Int) = 1 := by omega
 have hd1d : ((d : Int) == 1) = false := by simp; omega
 obtain ⟨d2, hdd⟩ : ∃ d2 : Nat, d2 = b - m := ⟨_, rfl⟩
 rw [← hdd] at hmb1
 have hw1 : IntKind.i64.wrap ((b : Int) - (m : Int)) = (d2 : Int) := by rw [← Int.natCast_sub (by omega), ← hdd]; exact IntWalk.i64_in _ (by omega)
 have hd2 : ¬ (d2 : Int) = 1 := by omega
 have hd2d : ((d2 : Int) == 1) = false := by simp; omega
 obtain ⟨s, hs⟩ : ∃ s : Nat, s = a + b := ⟨_, rfl⟩
 obtain ⟨M, hM⟩ : ∃ M : Nat, M = s / 2 := ⟨_, rfl⟩
 obtain ⟨pz, hp⟩ : ∃ pz : Nat, pz + 1 = M + m := ⟨M + m - 1, by omega⟩
 have hws : IntKind.i64.wrap ((a : Int) + (b : Int)) = (s : Int) := by rw [← Int.natCast_add, ← hs]; exact IntWalk.i64_in _ (by omega)
 have hu : IntKind.u64.wrap (s : Int) = (s : Int) := by unfold IntKind.wrap; simp [IntKind.signed, IntKind.bits]; omega
 have hsd : (s : Int) / 2 = (M : Int) := by omega
 have hMb : a < M ∧ M < b ∧ 2 * M ≤ a + b ∧ a + b ≤ 2 * M + 1 := by omega
 obtain ⟨n, hn⟩ : ∃ n : Nat, n = pz + 1 := ⟨_, rfl⟩
 have hwn : IntKind.i64.wrap ((M : Int) + (m : Int)) = (n : Int) := by rw [show (M : Int) + (m : Int) = (n : Int) by omega]; exact IntWalk.i64_in _ (by omega)
 have hwp : IntKind.i64.wrap ((n : Int) - 1) = (pz : Int) := by rw [show (n : Int) - 1 = (pz : Int) by omega]; exact IntWalk.i64_in _ (by omega)
 have hpM : pz + 1 = M + m := hp
 have hpn : pz < n ∧ n ≤ pz + 1 := by omega
 clear hd hdd hs hM hn hp
 go_enter Tryd.func181, Tryd.ntmps181
 go_upto_if 140 with (fail)
 go_cut [20, 21] (fun u v wx => ∃ (lo hi : Nat), u = .int .i64 lo ∧ v = .int .i64 hi ∧ (a ≤ lo ∧ lo ≤ hi ∧ hi ≤ M ∧ hi ≤ pz + 1 ∧ pz + 1 ≤ lo + b ∧ hi ≤ m) ∧ wx = w)
 case first =>
  as_aux_lemma =>
   by_cases hgt : M < m
   ·have hgt' : (M : Int) < (m : Int) := by omega
    obtain ⟨lo, hlo⟩ : ∃ lo : Nat, lo + b = n := ⟨n - b, by omega⟩
    have hwl : IntKind.i64.wrap ((n : Int) - (b : Int)) = (lo : Int) := by rw [show (n : Int) - (b : Int) = (lo : Int) by omega]; exact IntWalk.i64_in _ (by omega)
    have hll : a ≤ lo ∧ lo ≤ M ∧ pz + 1 ≤ lo + b := by omega
    clear hlo
    go_wp2_with fail
    go_meet
    exact ⟨lo, M, rfl, rfl, ⟨hll.1, hll.2.1, Nat.le_refl _, by omega, hll.2.2, by omega⟩, rfl⟩
   ·have hgt' : ¬ (M : Int) < (m : Int) := by omega
    go_wp2_with fail
    go_meet
    exact ⟨a, m, rfl, rfl, ⟨Nat.le_refl _, by omega, by omega, by omega, by omega, Nat.le_refl _⟩, rfl⟩
 case rest =>
 obtain ⟨lo, hi, rfl, rfl, hlh, hwx⟩ := hcut
 obtain ⟨wz, hwz⟩ : ∃ wz : World, wz = wc := ⟨_, rfl⟩
 subst hwz
 subst hwx
 go_wp2_with fail
 go_loopw [20, 21, 23] (fun v u x wr => ∃ (i j : Nat), lo ≤ i ∧ i ≤ j ∧ j ≤ hi ∧ v = .int .i64 i ∧ u = .int .i64 j ∧ RowF wr g ps ∧ Kept (fun b => b = g) wz wr) (fun v u _ _ => (intOf u).toNat - (intOf v).toNat)
 case atStart => exact ⟨lo, hi, Nat.le_refl _, hlh.2.1, Nat.le_refl _, rfl, rfl, HR.out, Kept.refl _ _⟩
 case round =>
  obtain ⟨wo, hwo⟩ : ∃ wo : World, wo = wr := ⟨_, rfl⟩
  subst hwo
  obtain ⟨i, j, hmi, hij, hjb, rfl, rfl, hRo, hKo⟩ := hrel
  have HO := Lib.hid (And.intro hRo hKo)
  clear hRo hKo
  by_cases hlt : i < j
  ·skip
   have hlt' : (i : Int) < (j : Int) := by omega
   obtain ⟨s, hs⟩ : ∃ s : Nat, s = i + j := ⟨_, rfl⟩
   obtain ⟨h, hh⟩ : ∃ h : Nat, h = s / 2 := ⟨_, rfl⟩
   have hws : IntKind.i64.wrap ((i : Int) + (j : Int)) = (s : Int) := by rw [← Int.natCast_add, ← hs]; exact IntWalk.i64_in _ (by omega)
   have hu : IntKind.u64.wrap (s : Int) = (s : Int) := by unfold IntKind.wrap; simp [IntKind.signed, IntKind.bits]; omega
   have hsd : (s : Int) / 2 = (h : Int) := by omega
   have hih : i ≤ h ∧ h < j := by omega
   have hwh : IntKind.i64.wrap ((h : Int) + 1) = ((h + 1 : Nat) : Int) := IntWalk.i64_in _ (by omega)
   clear hs hh
   obtain ⟨jx, hjx⟩ : ∃ jx : Nat, jx + h = pz := ⟨pz - h, by omega⟩
   have hwq : IntKind.i64.wrap ((pz : Int) - (h : Int)) = (jx : Int) := by rw [show (pz : Int) - (h : Int) = (jx : Int) by omega]; exact IntWalk.i64_in _ (by omega)
   have hqb : jx < ps.length ∧ h < ps.length := by omega
   clear hjx
   obtain ⟨p, hp⟩ := get_some (show jx < ps.length by omega)
   obtain ⟨q, hq⟩ := get_some (show h < ps.length by omega)
   have p0 := HO.out.1.cell0 hp
   have p1 := HO.out.1.cell1 hp
   have q0 := HO.out.1.cell0 hq
   have q1 := HO.out.1.cell1 hq
   have zg : g < wo.heap.size := HO.out.1.lt
   have x0 : (0 : Int) ≤ (jx : Int) := by omega
   have x1 : (jx : Int) < (ps.length : Int) := by omega
   have y0 : (0 : Int) ≤ (h : Int) := by omega
   have y1 : (h : Int) < (ps.length : Int) := by omega
   have HC := Lib.hid (HCm.out p (List.mem_of_getElem? hp) q (List.mem_of_getElem? hq) wo.drew HO.out.2.drew)
   clear hp hq
   go_wp2_with fail
   refine wp_region_noPanic ?_
   refine wp_region_held_drew (S := (fun w' => w'.cell? ⟨g, jx * 2, none⟩ = some (.int .i64 p.r) ∧ w'.cell? ⟨g, jx * 2 + 1, none⟩ = some (.slice p.a p.n p.c) ∧ w'.cell? ⟨g, h * 2, none⟩ = some (.int .i64 q.r) ∧ w'.cell? ⟨g, h * 2 + 1, none⟩ = some (.slice q.a q.n q.c))) (by kernel_rfl) ?hf (fun hHeld => ?bf)
   case hf => ((try dsimp only); go_keep)
   refine take_run (i := 0) (v := ?vf0) rfl (by kernel_rfl) (by kernel_rfl) (by kernel_rfl) (fun _ _ _ h => h) (by rfl) ?yf0 (by assumption) ?rf0
   case yf0 => (intro w hSw; (try dsimp only at hSw); go_simp; try with_reducible rfl)
   try simp only [Act.put, List.setIfInBounds_toArray, List.set_cons_zero, List.set_cons_succ]
   refine take_run (i := 1) (v := ?vf1) rfl (by kernel_rfl) (by kernel_rfl) (by kernel_rfl) (fun _ _ _ h => h) (by rfl) ?yf1 (by assumption) ?rf1
   case yf1 => (intro w hSw; (try dsimp only at hSw); go_simp; try with_reducible rfl)
   try simp only [Act.put, List.setIfInBounds_toArray, List.set_cons_zero, List.set_cons_succ]
   refine take_run (i := 2) (v := ?vf2) rfl (by kernel_rfl) (by kernel_rfl) (by kernel_rfl) (fun _ _ _ h => h) (by rfl) ?yf2 (by assumption) ?rf2
   case yf2 => (intro w hSw; (try dsimp only at hSw); go_simp; try with_reducible rfl)
   try simp only [Act.put, List.setIfInBounds_toArray, List.set_cons_zero, List.set_cons_succ]
   refine take_run (i := 3) (v := ?vf3) rfl (by kernel_rfl) (by kernel_rfl) (by kernel_rfl) (fun _ _ _ h => h) (by rfl) ?yf3 (by assumption) ?rf3
   case yf3 => (intro w hSw; (try dsimp only at hSw); go_simp; try with_reducible rfl)
   try simp only [Act.put, List.setIfInBounds_toArray, List.set_cons_zero, List.set_cons_succ]
   refine take_run (i := 4) (v := ?vf4) rfl (by kernel_rfl) (by kernel_rfl) (by kernel_rfl) (fun _ _ _ h => h) (by rfl) ?yf4 (by assumption) ?rf4
   case yf4 => (intro w hSw; (try dsimp only at hSw); go_simp; try with_reducible rfl)
   try simp only [Act.put, List.setIfInBounds_toArray, List.set_cons_zero, List.set_cons_succ]
   refine take_run (i := 5) (v := ?vf5) rfl (by kernel_rfl) (by kernel_rfl) (by kernel_rfl) (fun _ _ _ h => h) (by rfl) ?yf5 (by assumption) ?rf5
   case yf5 => (intro w hSw; (try dsimp only at hSw); go_simp; try with_reducible rfl)
   try simp only [Act.put, List.setIfInBounds_toArray, List.set_cons_zero, List.set_cons_succ]
   refine take_run (i := 6) (v := ?vf6) rfl (by kernel_rfl) (by kernel_rfl) (by kernel_rfl) (fun _ _ _ h => h) (by rfl) ?yf6 (by assumption) ?rf6
   case yf6 => (intro w hSw; (try dsimp only at hSw); go_simp; try with_reducible rfl)
   try simp only [Act.put, List.setIfInBounds_toArray, List.set_cons_zero, List.set_cons_succ]
   refine take_run (i := 7) (v := ?vf7) rfl (by kernel_rfl) (by kernel_rfl) (by kernel_rfl) (fun _ _ _ h => h) (by rfl) ?yf7 (by assumption) ?rf7
   case yf7 => (intro w hSw; (try dsimp only at hSw); go_simp; try with_reducible rfl)
   try simp only [Act.put, List.setIfInBounds_toArray, List.set_cons_zero, List.set_cons_succ]
   refine take_run (i := 8) (v := ?vf8) rfl (by kernel_rfl) (by kernel_rfl) (by kernel_rfl) (fun _ _ _ h => h) (by rfl) ?yf8 (by assumption) ?rf8
   case yf8 => (intro w hSw; (try dsimp only at hSw); go_simp; try with_reducible rfl)
   try simp only [Act.put, List.setIfInBounds_toArray, List.set_cons_zero, List.set_cons_succ]
   refine take_run (i := 9) (v := ?vf9) rfl (by kernel_rfl) (by kernel_rfl) (by kernel_rfl) (fun _ _ _ h => h) (by rfl) ?yf9 (by assumption) ?rf9
   case yf9 => (intro w hSw; (try dsimp only at hSw); go_simp; try with_reducible rfl)
   try simp only [Act.put, List.setIfInBounds_toArray, List.set_cons_zero, List.set_cons_succ]
   refine take_run (i := 10) (v := ?vf10) rfl (by kernel_rfl) (by kernel_rfl) (by kernel_rfl) (fun _ _ _ h => h) (by rfl) ?yf10 (by assumption) ?rf10
   case yf10 => (intro w hSw; (try dsimp only at hSw); go_simp; try with_reducible rfl)
   try simp only [Act.put, List.setIfInBounds_toArray, List.set_cons_zero, List.set_cons_succ]
   refine take_call (i := 11) rfl (by kernel_rfl) (by rfl) (fun Kq hK => ?_)
   go_simp
   go_at_call 132
   refine HC.out.mono ?_
   rintro e w1 ⟨⟨k, rfl⟩, hb1⟩
   have HB1 := Lib.hid (bundrew hb1)
   have n0 := (HB1.out.cell (p := ⟨g, jx * 2, none⟩) zg).trans p0
   have n1 := (HB1.out.cell (p := ⟨g, jx * 2 + 1, none⟩) zg).trans p1
   have n2 := (HB1.out.cell (p := ⟨g, h * 2, none⟩) zg).trans q0
   have n3 := (HB1.out.cell (p := ⟨g, h * 2 + 1, none⟩) zg).trans q1
   clear hb1
   refine hK.out _ _ ?hf11 (fun hHeld => ?rf11)
   case hf11 => ((try dsimp only); go_keep)
   clear hK Kq
   try simp only [Act.put, List.setIfInBounds_toArray, List.set_cons_zero, List.set_cons_succ]
   refine take_run (i := 12) (v := ?vf12) rfl (by kernel_rfl) (by kernel_rfl) (by kernel_rfl) (fun _ _ _ h => h) (by rfl) ?yf12 (by assumption) ?rf12
   case yf12 => (intro w hSw; (try dsimp only at hSw); go_simp; try with_reducible rfl)
   try simp only [Act.put, List.setIfInBounds_toArray, List.set_cons_zero, List.set_cons_succ]
   refine take_run (i := 13) (v := ?vf13) rfl (by kernel_rfl) (by kernel_rfl) (by kernel_rfl) (fun _ _ _ h => h) (by rfl) ?yf13 (by assumption) ?rf13
   case yf13 => (intro w hSw; (try dsimp only at hSw); go_simp; try with_reducible rfl)
   try simp only [Act.put, List.setIfInBounds_toArray, List.set_cons_zero, List.set_cons_succ]
   refine wpAnyH_done (by kernel_rfl) ?_ _
   refine NoPanic.normal ?_
   generalize (!decide (k < 0)) = nb
   cases nb
   ·go_wp2_with fail
    go_roundw
    case rel => exact ⟨i, h, by omega, by omega, by omega, rfl, rfl, HO.out.1.below HB1.out, HO.out.2.below HB1.out⟩
    case measure => simp [intOf]; omega
   ·go_wp2_with fail
    go_roundw
    case rel => exact ⟨h + 1, j, by omega, by omega, hjb, by go_num, rfl, HO.out.1.below HB1.out, HO.out.2.below HB1.out⟩
    case measure => simp [intOf]; omega
  ·have hlt' : ¬ (i : Int) < (j : Int) := by omega
   obtain ⟨e, he⟩ : ∃ e : Nat, e + i = n := ⟨n - i, by omega⟩
   have hwe : IntKind.i64.wrap ((n : Int) - (i : Int)) = (e : Int) := by rw [show (n : Int) - (i : Int) = (e : Int) by omega]; exact IntWalk.i64_in _ (by omega)
   have hei : e ≤ b ∧ M ≤ e ∧ a ≤ i ∧ i ≤ M := by omega
   clear he
   go_upto_region 39 with (fail)
   go_cut [185] (fun v wx => v = .bool (decide (i < m ∧ m < e)) ∧ wx = wo)
   case first =>
    as_aux_lemma =>
     by_cases c1 : i < m
     ·have c1' : (i : Int) < (m : Int) := by omega
      by_cases c2 : m < e
      ·have c2' : (m : Int) < (e : Int) := by omega
       have c3 := Lib.hid (decide_eq_true (And.intro c1 c2))
       go_wp2_with fail
       go_meet
       exact ⟨by rw [c3.out], rfl⟩
      ·have c2' : ¬ (m : Int) < (e : Int) := by omega
       have c3 := Lib.hid (decide_eq_false (fun h : i < m ∧ m < e => c2 h.2))
       go_wp2_with fail
       go_meet
       exact ⟨by rw [c3.out], rfl⟩
     ·have c1' : ¬ (i : Int) < (m : Int) := by omega
      have c3 := Lib.hid (decide_eq_false (fun h : i < m ∧ m < e => c1 h.1))
      go_wp2_with fail
      go_meet
      exact ⟨by rw [c3.out], rfl⟩
   case rest =>
   obtain ⟨rfl, e2⟩ := hcut
   obtain ⟨wf, hwf⟩ : ∃ wf : World, wf = wc := ⟨_, rfl⟩
   subst hwf
   subst e2
   go_upto_if 185 with (fail)
   go_cut [] (fun wx => ∃ qs : List PkV, RowF wx g qs ∧ qs.Perm ps ∧ Kept (fun b => b = g) wz wx)
   case first =>
    as_aux_lemma =>
     by_cases cc : i < m ∧ m < e
     ·rw [decide_eq_true cc]
      have HC := Lib.hid (rotate_any wf ps g cap i m e (.func (.func 132) #[] #[]) hN HO.out.1 cc.1 cc.2 (by omega))
      go_wp2_with fail
      refine HC.out.mono ?_
      rintro x w1 ⟨rfl, rs, h1, h2, h3⟩
      have HE := Lib.hid (And.intro h1 (And.intro h2 (HO.out.2.trans h3)))
      clear h1 h2 h3
      go_wp2_with fail
      go_meet
      exact ⟨rs, HE.out⟩
     ·rw [decide_eq_false cc]
      go_wp2_with fail
      go_meet
      exact ⟨ps, HO.out.1, List.Perm.refl _, HO.out.2⟩
   case rest =>
   clear HO
   obtain ⟨wp, hwn⟩ : ∃ wp : World, wp = wc := ⟨_, rfl⟩
   subst hwn
   obtain ⟨qs, hRq, hPq, hKq⟩ := hcut
   have hql := hPq.length_eq
   have HO := Lib.hid (And.intro hRq (And.intro hPq hKq))
   clear hRq hPq hKq
   go_upto_region 41 with (fail)
   go_cut [199] (fun v wx => v = .bool (decide (a < i ∧ i < M)) ∧ wx = wp)
   case first =>
    as_aux_lemma =>
     by_cases c1 : a < i
     ·have c1' : (a : Int) < (i : Int) := by omega
      by_cases c2 : i < M
      ·have c2' : (i : Int) < (M : Int) := by omega
       have c3 := Lib.hid (decide_eq_true (And.intro c1 c2))
       go_wp2_with fail
       go_meet
       exact ⟨by rw [c3.out], rfl⟩
      ·have c2' : ¬ (i : Int) < (M : Int) := by omega
       have c3 := Lib.hid (decide_eq_false (fun h : a < i ∧ i < M => c2 h.2))
       go_wp2_with fail
       go_meet
       exact ⟨by rw [c3.out], rfl⟩
     ·have c1' : ¬ (a : Int) < (i : Int) := by omega
      have c3 := Lib.hid (decide_eq_false (fun h : a < i ∧ i < M => c1 h.1))
      go_wp2_with fail
      go_meet
      exact ⟨by rw [c3.out], rfl⟩
   case rest =>
   obtain ⟨rfl, e2⟩ := hcut
   obtain ⟨wf, hwf⟩ : ∃ wf : World, wf = wc := ⟨_, rfl⟩
   subst hwf
   subst e2
   go_upto_if 199 with (fail)
   go_cut [] (fun wx => ∃ qs : List PkV, RowF wx g qs ∧ qs.Perm ps ∧ Kept (fun b => b = g) wz wx)
   case first =>
    as_aux_lemma =>
     by_cases cc : a < i ∧ i < M
     ·rw [decide_eq_true cc]
      have HC := Lib.hid (HI.out wf qs a i M (by omega) (by omega) HO.out.1 (HCm.out.perm HO.out.2.1 HO.out.2.2) cc.1 cc.2 (by omega))
      rw [hql] at HC
      go_wp2_with fail
      refine HC.out.mono ?_
      rintro x w1 ⟨rfl, rs, h1, h2, h3⟩
      have HE := Lib.hid (And.intro h1 (And.intro (h2.trans HO.out.2.1) (HO.out.2.2.trans h3)))
      clear h1 h2 h3
      go_wp2_with fail
      go_meet
      exact ⟨rs, HE.out⟩
     ·rw [decide_eq_false cc]
      go_wp2_with fail
      go_meet
      exact ⟨qs, HO.out⟩
   case rest =>
   clear HO
   obtain ⟨wq, hwn⟩ : ∃ wq : World, wq = wc := ⟨_, rfl⟩
   subst hwn
   obtain ⟨zs, hRq, hPq, hKq⟩ := hcut
   have hzl := hPq.length_eq
   have HO := Lib.hid (And.intro hRq (And.intro hPq hKq))
   clear hRq hPq hKq
   go_upto_region 43 with (fail)
   go_cut [213] (fun v wx => v = .bool (decide (M < e ∧ e < b)) ∧ wx = wq)
   case first =>
    as_aux_lemma =>
     by_cases c1 : M < e
     ·have c1' : (M : Int) < (e : Int) := by omega
      by_cases c2 : e < b
      ·have c2' : (e : Int) < (b : Int) := by omega
       have c3 := Lib.hid (decide_eq_true (And.intro c1 c2))
       go_wp2_with fail
       go_meet
       exact ⟨by rw [c3.out], rfl⟩
      ·have c2' : ¬ (e : Int) < (b : Int) := by omega
       have c3 := Lib.hid (decide_eq_false (fun h : M < e ∧ e < b => c2 h.2))
       go_wp2_with fail
       go_meet
       exact ⟨by rw [c3.out], rfl⟩
     ·have c1' : ¬ (M : Int) < (e : Int) := by omega
      have c3 := Lib.hid (decide_eq_false (fun h : M < e ∧ e < b => c1 h.1))
      go_wp2_with fail
      go_meet
      exact ⟨by rw [c3.out], rfl⟩
   case rest =>
   obtain ⟨rfl, e2⟩ := hcut
   obtain ⟨wf, hwf⟩ : ∃ wf : World, wf = wc := ⟨_, rfl⟩
   subst hwf
   subst e2
   by_cases cc : M < e ∧ e < b
   ·rw [decide_eq_true cc]
    have HC := Lib.hid (HI.out wf zs M e b (by omega) (by omega) HO.out.1 (HCm.out.perm HO.out.2.1 HO.out.2.2) cc.1 cc.2 (by omega))
    rw [hzl] at HC
    go_wp2_with fail
    refine HC.out.mono ?_
    rintro x w1 ⟨rfl, rs, h1, h2, h3⟩
    have HE := Lib.hid (And.intro h1 (And.intro (h2.trans HO.out.2.1) (HO.out.2.2.trans h3)))
    clear h1 h2 h3
    go_wp2_with fail
    go_end0
    exact ⟨rfl, rs, HE.out⟩
   ·rw [decide_eq_false cc]
    go_wp2_with fail
    go_end0
    exact ⟨rfl, zs, HO.out⟩
theorem symF_step (w : World) (ps : List PkV) (g cap a m b N : Nat) (hI : SymMgOk g cap N) (hN' : b - a ≤ N) (hN : ps.length < 4611686018427387904) (hR : RowF w g ps) (hC : CmpOk w g ps) (ham : a < m) (hmb : m < b) (hb : b ≤ ps.length) :
  Calls Tryd.prog 181 #[.slice (some ⟨g, 0, none⟩) ps.length cap, .int .i64 a, .int .i64 m, .int .i64 b, .func (.func 132) #[] #[]] w (RetPm w g ps) := by
 by_cases h1 : m - a = 1
 ·exact symF_one w ps g cap a m b hN hR hC h1 ham hmb hb
 ·by_cases h2 : b - m = 1
  ·exact symF_two w ps g cap a m b hN hR hC h1 h2 ham hmb hb
  ·exact symF_gen w ps g cap a m b N hI hN' hN hR hC h1 h2 ham hmb hb
theorem symF_any (w : World) (ps : List PkV) (g cap a m b : Nat) (hN : ps.length < 4611686018427387904) (hR : RowF w g ps) (hC : CmpOk w g ps) (ham : a < m) (hmb : m < b) (hb : b ≤ ps.length) :
  Calls Tryd.prog 181 #[.slice (some ⟨g, 0, none⟩) ps.length cap, .int .i64 a, .int .i64 m, .int .i64 b, .func (.func 132) #[] #[]] w (RetPm w g ps) := by
 have h : ∀ N : Nat, SymMgOk g cap N := by
  intro N
  induction N with
  | zero => intro w ps a m b h; omega
  | succ N ih => exact fun w ps a m b h1 h2 h3 h4 h5 h6 h7 => symF_step w ps g cap a m b N ih (by omega) h2 h3 h4 h5 h6 h7
 exact h (b - a + 1) w ps a m b (by omega) hN hR hC ham hmb hb
end Go.Proofs.YtjdojogjogenkaaDoor
