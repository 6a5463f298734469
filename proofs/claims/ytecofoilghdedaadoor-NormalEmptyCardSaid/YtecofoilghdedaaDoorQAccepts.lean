/- Contract: mean.Accepts: whether a word has a tree. -/
import Derived.Test.YtecofoilghdedaaDoorQEnds
import Derived.Test.YtecofoilghdedaaDoorQWord
import Derived.Test.YtecofoilghdedaaDoorQCheck
namespace Go.Proofs.YtecofoilghdedaaDoor
open Go.RowKit
set_option linter.unusedVariables false

theorem shr_bit (x k : Nat) : (x / 2 ^ k) &&& 1 = if x.testBit k = true then 1 else 0 := by
  rw [Nat.and_one_is_mod, ← Nat.shiftRight_eq_div_pow]
  have h : x.testBit k = decide ((x >>> k) % 2 = 1) := by
    rw [Nat.testBit_eq_decide_div_mod_eq, Nat.shiftRight_eq_div_pow]
  rw [h]
  by_cases e : (x >>> k) % 2 = 1
  · rw [if_pos (by simp [e]), e]
  · rw [if_neg (by simp [e])]
    omega
set_option maxRecDepth 100000 in
set_option maxHeartbeats 4000000 in
theorem mcheck_any (g : Gram) (ws : List Int) (A B : Option Addr) (c cw : Nat) (S Sw : Nat → Prop) (w : World) (hck : checkI g = 0) (hlc : g.rules.length ≤ c) (hc : c ≤ 9223372036854775807) (hA : Els w S g.rules A) (hS : ∀ b, S b → b < w.heap.size) (hB : Els w Sw ws B) (hSw : ∀ b, Sw b → b < w.heap.size) (hl : ws.length ≤ 9223372036854775807) (hw : wordE g.terms ws 12 = 0) :
    Calls Tryd.prog 48 #[.agg #[.int .i64 g.terms, .int .i64 g.nons, .int .i64 g.start, .slice A g.rules.length c], .slice B ws.length cw] w fun e w' => e = .returned (.int .i64 0) ∧ Below w.heap.size w w' := by
  obtain ⟨gt, gn, gs, rs⟩ := g
  dsimp only at *
  have HA := Lib.hid hA
  have HS := Lib.hid hS
  have HB := Lib.hid hB
  have HSw := Lib.hid hSw
  have HC := Lib.hid hck
  have HW := Lib.hid hw
  have HG0 := Lib.hid (Blk'.new w 25 #[.int .i64 gt, .int .i64 gn, .int .i64 gs, .slice A rs.length c])
  have HB0 : Hid (Below w.heap.size w (w.alloc (.cells #[.int .i64 gt, .int .i64 gn, .int .i64 gs, .slice A rs.length c] 25))) := Lib.hid ((Below.refl _ _).alloc (Nat.le_refl _) _)
  clear hA hS hB hSw hck hw
  go_enter Tryd.func48, Tryd.ntmps48
  go_wp2_with fail
  refine (check_any ⟨gt, gn, gs, rs⟩ A c S _ hlc hc (HA.out.belowB HB0.out HS.out)).mono ?_
  rintro e w1 ⟨rfl, hb1⟩
  rw [HC.out]
  have HB1 := Lib.hid (bthen HB0.out hb1 HB0.out.size)
  have HG1 := Lib.hid (HG0.out.below hb1 (by simp))
  have a0 : w1.cell? ⟨w.heap.size, 0, none⟩ = some (.int .i64 gt) := HG1.out.cell 0
  have a1 : w1.cell? ⟨w.heap.size, 1, none⟩ = some (.int .i64 gn) := HG1.out.cell 1
  have a2 : w1.cell? ⟨w.heap.size, 2, none⟩ = some (.int .i64 gs) := HG1.out.cell 2
  have a3 : w1.cell? ⟨w.heap.size, 3, none⟩ = some (.slice A rs.length c) := HG1.out.cell 3
  have zG : w.heap.size < w1.heap.size := HG1.out.lt
  clear hb1
  go_wp2_with fail
  refine (word_any gt gn gs 12 _ ws B cw Sw w1 hl (HB.out.belowB HB1.out HSw.out) (fun b hb => by have := HSw.out b hb; have := HB1.out.size; omega) ⟨A, rs.length, c, rfl⟩).mono ?_
  rintro e w2 ⟨rfl, hb2⟩
  rw [HW.out]
  have HB2 := Lib.hid (bthen HB1.out hb2 HB1.out.size)
  clear hb2
  go_wp2
  go_ret
  exact ⟨rfl, HB2.out⟩

set_option maxRecDepth 100000 in
set_option maxHeartbeats 4000000 in
theorem accepts_any (g : Gram) (ws : List Int) (A B : Option Addr) (c cw : Nat) (S Sw : Nat → Prop) (w : World) (hck : checkI g = 0) (hlc : g.rules.length ≤ c) (hc : c ≤ 9223372036854775807) (hA : Els w S g.rules A) (hS : ∀ b, S b → b < w.heap.size) (hB : Els w Sw ws B) (hSw : ∀ b, Sw b → b < w.heap.size) (hw : wordE g.terms ws 12 = 0) (hTab : Tab32 w) :
    Calls Tryd.prog 11 #[.agg #[.int .i64 g.terms, .int .i64 g.nons, .int .i64 g.start, .slice A g.rules.length c], .slice B ws.length cw] w fun e w' => ∃ b : Bool, e = .returned (.tuple #[.bool b, .int .i64 0]) ∧ (b = true ↔ DerW g [⟨false, g.start⟩] ws) ∧ Below w.heap.size w w' := by
  have hv := validG_of hck
  obtain ⟨gt, gn, gs, rs⟩ := g
  dsimp only at *
  have hn : 1 ≤ gn ∧ gn ≤ 10 ∧ 0 ≤ gs ∧ gs < gn := ⟨hv.n1, hv.n10, hv.s0, hv.s1⟩
  have hlw : ws.length ≤ 12 := by
    unfold wordE at hw
    split at hw
    · cases hw
    · omega
  obtain ⟨n, hne⟩ : ∃ n : Nat, gn = (n : Int) := ⟨gn.toNat, by omega⟩
  obtain ⟨y, hye⟩ : ∃ y : Nat, gs = (y : Int) := ⟨gs.toNat, by omega⟩
  subst hne; subst hye
  have hyn : y < n := by omega
  have hn9 : (n : Int) ≤ 10 := by omega
  have hy9 : (y : Int) < (n : Int) := by omega
  have hy0 : (0 : Int) ≤ (y : Int) := by omega
  have HA := Lib.hid hA
  have HS := Lib.hid hS
  have HB := Lib.hid hB
  have HSw := Lib.hid hSw
  have HC := Lib.hid hck
  have HW := Lib.hid hw
  have HT := Lib.hid hTab
  have HG0 := Lib.hid (Blk'.new w 25 #[.int .i64 gt, .int .i64 (n : Int), .int .i64 (y : Int), .slice A rs.length c])
  have HB0 : Hid (Below w.heap.size w (w.alloc (.cells #[.int .i64 gt, .int .i64 (n : Int), .int .i64 (y : Int), .slice A rs.length c] 25))) := Lib.hid ((Below.refl _ _).alloc (Nat.le_refl _) _)
  clear hA hS hB hSw hck hw hv hn hTab
  go_enter Tryd.func11, Tryd.ntmps11
  go_wp2_with fail
  refine (mcheck_any ⟨gt, (n : Int), (y : Int), rs⟩ ws A B c cw S Sw _ HC.out hlc hc (HA.out.belowB HB0.out HS.out) (fun b hb => by have := HS.out b hb; simp; omega) (HB.out.belowB HB0.out HSw.out) (fun b hb => by have := HSw.out b hb; simp; omega) (by omega) HW.out).mono ?_
  rintro e w1 ⟨rfl, hb1⟩
  have HB1 := Lib.hid (bthen HB0.out hb1 HB0.out.size)
  have HG1 := Lib.hid (HG0.out.below hb1 (by simp))
  have a0 : w1.cell? ⟨w.heap.size, 0, none⟩ = some (.int .i64 gt) := HG1.out.cell 0
  have a1 : w1.cell? ⟨w.heap.size, 1, none⟩ = some (.int .i64 (n : Int)) := HG1.out.cell 1
  have a2 : w1.cell? ⟨w.heap.size, 2, none⟩ = some (.int .i64 (y : Int)) := HG1.out.cell 2
  have a3 : w1.cell? ⟨w.heap.size, 3, none⟩ = some (.slice A rs.length c) := HG1.out.cell 3
  have zG : w.heap.size < w1.heap.size := HG1.out.lt
  clear hb1
  go_wp2_with fail
  refine wp_region_noPanic ?_
  refine wp_region_held_drew (S := (fun w' => w'.cell? ⟨w.heap.size, 0, none⟩ = some (.int .i64 gt) ∧ w'.cell? ⟨w.heap.size, 1, none⟩ = some (.int .i64 (n : Int)) ∧ w'.cell? ⟨w.heap.size, 2, none⟩ = some (.int .i64 (y : Int)) ∧ w'.cell? ⟨w.heap.size, 3, none⟩ = some (.slice A rs.length c))) (by kernel_rfl) ?ha (fun hHeld => ?ba)
  case ha => ((try dsimp only); go_keep)
  refine take_run (i := 0) (v := ?va0) rfl (by kernel_rfl) (by kernel_rfl) (by kernel_rfl) (fun _ _ _ h => h) (by rfl) ?ya0 (by assumption) ?ra0
  case ya0 => (intro w hSw; (try dsimp only at hSw); go_simp; try with_reducible rfl)
  try simp only [Act.put, List.setIfInBounds_toArray, List.set_cons_zero, List.set_cons_succ]
  refine take_run (i := 1) (v := ?va1) rfl (by kernel_rfl) (by kernel_rfl) (by kernel_rfl) (fun _ _ _ h => h) (by rfl) ?ya1 (by assumption) ?ra1
  case ya1 => (intro w hSw; (try dsimp only at hSw); go_simp; try with_reducible rfl)
  try simp only [Act.put, List.setIfInBounds_toArray, List.set_cons_zero, List.set_cons_succ]
  refine take_run (i := 3) (v := ?va3) rfl (by kernel_rfl) (by kernel_rfl) (by kernel_rfl) (fun _ _ _ h => h) (by rfl) ?ya3 (by assumption) ?ra3
  case ya3 => (intro w hSw; (try dsimp only at hSw); go_simp; try with_reducible rfl)
  try simp only [Act.put, List.setIfInBounds_toArray, List.set_cons_zero, List.set_cons_succ]
  refine take_run (i := 4) (v := ?va4) rfl (by kernel_rfl) (by kernel_rfl) (by kernel_rfl) (fun _ _ _ h => h) (by rfl) ?ya4 (by assumption) ?ra4
  case ya4 => (intro w hSw; (try dsimp only at hSw); go_simp; try with_reducible rfl)
  try simp only [Act.put, List.setIfInBounds_toArray, List.set_cons_zero, List.set_cons_succ]
  refine take_run (i := 9) (v := ?va9) rfl (by kernel_rfl) (by kernel_rfl) (by kernel_rfl) (fun _ _ _ h => h) (by rfl) ?ya9 (by assumption) ?ra9
  case ya9 => (intro w hSw; (try dsimp only at hSw); go_simp; try with_reducible rfl)
  try simp only [Act.put, List.setIfInBounds_toArray, List.set_cons_zero, List.set_cons_succ]
  refine take_run (i := 10) (v := ?va10) rfl (by kernel_rfl) (by kernel_rfl) (by kernel_rfl) (fun _ _ _ h => h) (by rfl) ?ya10 (by assumption) ?ra10
  case ya10 => (intro w hSw; (try dsimp only at hSw); go_simp; try with_reducible rfl)
  try simp only [Act.put, List.setIfInBounds_toArray, List.set_cons_zero, List.set_cons_succ]
  refine take_call (i := 2) rfl (by kernel_rfl) (by rfl) (fun Kq hK => ?_)
  go_simp
  go_at_call 49
  refine (ends_acc ⟨gt, (n : Int), (y : Int), rs⟩ n ws A B c cw S Sw w1.drew rfl HC.out hlc hc (HA.out.belowB HB1.out.drew HS.out) (fun b hb => by have := HS.out b hb; have := HB1.out.size; show b < w1.heap.size; omega) hlw (HB.out.belowB HB1.out.drew HSw.out) (fun b hb => by have := HSw.out b hb; have := HB1.out.size; show b < w1.heap.size; omega) (HT.out.below HB1.out.drew HT.out.1)).mono ?_
  rintro e w2 ⟨bf, bs, T, rfl, hR, hSh, hSn, hCl, hge, hb2⟩
  have HB12 := Lib.hid (bundrew hb2)
  have HB2 := Lib.hid (bthen HB1.out HB12.out HB1.out.size)
  have b0 := (HB12.out.cell (p := ⟨w.heap.size, 0, none⟩) zG).trans a0
  have b1 := (HB12.out.cell (p := ⟨w.heap.size, 1, none⟩) zG).trans a1
  have b2 := (HB12.out.cell (p := ⟨w.heap.size, 2, none⟩) zG).trans a2
  have b3 := (HB12.out.cell (p := ⟨w.heap.size, 3, none⟩) zG).trans a3
  obtain ⟨br, hbr⟩ := get_some (show y < bs.length by rw [hR.blen]; exact hyn)
  obtain ⟨row, hrow⟩ := get_some (show y < T.length by rw [hSh.len]; exact hyn)
  have hBr := hR.rows y br row hbr hrow
  obtain ⟨v, hvv⟩ := get_some (show 0 < row.length by rw [hBr.2]; omega)
  have d0 : w2.cell? ⟨bf, y, none⟩ = some (.slice (some ⟨br, 0, none⟩) (ws.length + 1) (ws.length + 1)) := hR.outer y br hbr
  have d1 : w2.cell? ⟨br, 0, none⟩ = some (.int .u32 (v : Int)) := (hBr.1.cell _).trans (ucells_get hvv)
  have zbf := hR.bflt
  have zbr := hBr.1.lt
  have hmsk : mskAt T y 0 = v := by unfold mskAt; rw [List.getD_eq_getElem?_getD (l := T), hrow]; simp only [Option.getD_some]; rw [List.getD_eq_getElem?_getD, hvv]; rfl
  have hv13 : v < 2 ^ (ws.length + 1) := by rw [← hmsk]; exact hSh.low _ _
  have hpm : 2 ^ (ws.length + 1) ≤ 8192 := pow13 (by omega)
  have hv14 : v < 8192 := by omega
  have hacc := acc_iff (a := y) hSn hCl
  rw [hmsk] at hacc
  have hsr : (v : Int) / 2 ^ ws.length = ((v / 2 ^ ws.length : Nat) : Int) := by push_cast; rfl
  have hvd : v / 2 ^ ws.length ≤ v := Nat.div_le_self _ _
  have han : bits .and .u32 ((v : Int) / 2 ^ ws.length) 1 = if v.testBit ws.length = true then 1 else 0 := by
    rw [hsr, show (1 : Int) = ((1 : Nat) : Int) from rfl, u32_and_nat _ 1 (by omega) (by omega), shr_bit]
    split <;> rfl
  have HFin : Hid ((bits .and .u32 ((v : Int) / 2 ^ ws.length) 1 == 1) = true ↔ DerW ⟨gt, (n : Int), (y : Int), rs⟩ [⟨false, (y : Int)⟩] ws) := Lib.hid (by
    rw [← hacc, han]
    cases v.testBit ws.length <;> simp)
  have hw0 : (0 : Int) < (ws.length : Int) + 1 := by omega
  clear hR hSh hSn hCl hge hb2 hbr hrow hBr hvv hmsk hv13 hpm hacc hsr hvd han
  refine hK.out _ _ ?ha2 (fun hHeld => ?ra2)
  case ha2 => ((try dsimp only); go_keep)
  clear hK Kq
  try simp only [Act.put, List.setIfInBounds_toArray, List.set_cons_zero, List.set_cons_succ]
  refine take_run (i := 5) (v := ?va5) rfl (by kernel_rfl) (by kernel_rfl) (by kernel_rfl) (fun _ _ _ h => h) (by rfl) ?ya5 (by assumption) ?ra5
  case ya5 => (intro w hSw; (try dsimp only at hSw); go_simp; try with_reducible rfl)
  try simp only [Act.put, List.setIfInBounds_toArray, List.set_cons_zero, List.set_cons_succ]
  refine take_call (i := 6) rfl (by kernel_rfl) (by rfl) (fun Kq hK => ?_)
  go_simp
  refine hK.out _ _ ?ha6 (fun hHeld => ?ra6)
  case ha6 => ((try dsimp only); go_keep)
  clear hK Kq
  try simp only [Act.put, List.setIfInBounds_toArray, List.set_cons_zero, List.set_cons_succ]
  refine take_run (i := 7) (v := ?va7) rfl (by kernel_rfl) (by kernel_rfl) (by kernel_rfl) (fun _ _ _ h => h) (by rfl) ?ya7 (by assumption) ?ra7
  case ya7 => (intro w hSw; (try dsimp only at hSw); go_simp; try with_reducible rfl)
  try simp only [Act.put, List.setIfInBounds_toArray, List.set_cons_zero, List.set_cons_succ]
  refine take_call (i := 8) rfl (by kernel_rfl) (by rfl) (fun Kq hK => ?_)
  go_simp
  refine hK.out _ _ ?ha8 (fun hHeld => ?ra8)
  case ha8 => ((try dsimp only); go_keep)
  clear hK Kq
  try simp only [Act.put, List.setIfInBounds_toArray, List.set_cons_zero, List.set_cons_succ]
  refine take_run (i := 11) (v := ?va11) rfl (by kernel_rfl) (by kernel_rfl) (by kernel_rfl) (fun _ _ _ h => h) (by rfl) ?ya11 (by assumption) ?ra11
  case ya11 => (intro w hSw; (try dsimp only at hSw); go_simp; try with_reducible rfl)
  try simp only [Act.put, List.setIfInBounds_toArray, List.set_cons_zero, List.set_cons_succ]
  refine take_run (i := 12) (v := ?va12) rfl (by kernel_rfl) (by kernel_rfl) (by kernel_rfl) (fun _ _ _ h => h) (by rfl) ?ya12 (by assumption) ?ra12
  case ya12 => (intro w hSw; (try dsimp only at hSw); go_simp; try with_reducible rfl)
  try simp only [Act.put, List.setIfInBounds_toArray, List.set_cons_zero, List.set_cons_succ]
  refine take_run (i := 13) (v := ?va13) rfl (by kernel_rfl) (by kernel_rfl) (by kernel_rfl) (fun _ _ _ h => h) (by rfl) ?ya13 (by assumption) ?ra13
  case ya13 => (intro w hSw; (try dsimp only at hSw); go_simp; try with_reducible rfl)
  try simp only [Act.put, List.setIfInBounds_toArray, List.set_cons_zero, List.set_cons_succ]
  refine take_run (i := 14) (v := ?va14) rfl (by kernel_rfl) (by kernel_rfl) (by kernel_rfl) (fun _ _ _ h => h) (by rfl) ?ya14 (by assumption) ?ra14
  case ya14 => (intro w hSw; (try dsimp only at hSw); go_simp; try with_reducible rfl)
  try simp only [Act.put, List.setIfInBounds_toArray, List.set_cons_zero, List.set_cons_succ]
  refine take_run (i := 15) (v := ?va15) rfl (by kernel_rfl) (by kernel_rfl) (by kernel_rfl) (fun _ _ _ h => h) (by rfl) ?ya15 (by assumption) ?ra15
  case ya15 => (intro w hSw; (try dsimp only at hSw); go_simp; try with_reducible rfl)
  try simp only [Act.put, List.setIfInBounds_toArray, List.set_cons_zero, List.set_cons_succ]
  refine wpAnyH_done (by kernel_rfl) ?_ _
  refine NoPanic.normal ?_
  go_wp2
  go_ret2
  exact ⟨_, rfl, HFin.out, HB2.out⟩
end Go.Proofs.YtecofoilghdedaaDoor
