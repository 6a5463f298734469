/- The walk of the law PrecUnambiguous: a word has at most one tree in the layered grammar. -/
import Derived.Test.YtjdojogjogenkaaDoorQPrecUnChk
import Derived.Test.YtjdojogjogenkaaDoorQMeanCount
import Derived.Test.YtjdojogjogenkaaDoorQw2
import Derived.Test.YtjdojogjogenkaaDoorQClimbs
import Derived.Test.YtjdojogjogenkaaDoorQPrecPubL
import Derived.Test.YtjdojogjogenkaaDoorQw3
import Derived.Test.YtjdojogjogenkaaDoorQp2
import Derived.Test.YtjdojogjogenkaaDoorQp1
namespace Go.Proofs.YtjdojogjogenkaaDoor
open Go.RowKit
set_option linter.unusedVariables false

set_option maxRecDepth 100000 in
set_option maxHeartbeats 4000000 in
theorem precUnambiguous_any (ops : List Int) (Aops : Option Addr) (cops : Nat) (raw : List Int) (Araw : Option Addr) (craw : Nat) (S0 : Nat → Prop) (w : World) (hops : ops.length ≤ cops) (mops : cops ≤ 9223372036854775807) (Eops : Els w S0 ops Aops) (hraw : raw.length ≤ craw) (mraw : craw ≤ 9223372036854775807) (Eraw : Els w S0 raw Araw) (hS0 : ∀ b, S0 b → b < w.heap.size) (hTab : Tab32 w) :
    Calls Tryd.prog 6 #[.slice Aops ops.length cops, .slice Araw raw.length craw] w fun e w' => e = .returned (.bool true) ∧ Below w.heap.size w w' := by
  have Eopsw := Lib.hid Eops
  have Dops := Lib.hid (And.intro hops mops)
  have Eraww := Lib.hid Eraw
  have Draw := Lib.hid (And.intro hraw mraw)
  have HS0 := Lib.hid hS0
  have HBw : Hid (Below w.heap.size w w) := Lib.hid (Below.refl _ _)
  clear hS0 Eops hops mops Eraw hraw mraw
  have Etabw := Lib.hid hTab
  clear hTab
  go_enter Tryd.func6, Tryd.ntmps6
  go_wp2_with fail
  refine (operators_any ops Aops cops S0 w Dops.out.1 Dops.out.2 Eopsw.out HS0.out).mono ?_
  rintro e w1 ⟨t, v, k, rfl, hO, _, hv, hbw1⟩
  have h0 := hO.valid (by omega)
  obtain ⟨A1, c1, rfl, hl1, hl2, hE1⟩ := hv.slice
  have H64 := Lib.hid (show I64 t.terms ∧ I64 t.atom ∧ I64 t.opn ∧ I64 t.cls by
      have h1 := hO.terms
      have h2 := hO.atom
      have h3 := hO.br
      unfold I64
      omega)
  have T8 : Hid (t.terms = 8) := Lib.hid hO.terms
  have T0 : Hid (t.atom = 0) := Lib.hid hO.atom
  have HC := Lib.hid h0
  have V := Lib.hid (valid_of h0)
  have QL := Lib.hid (And.intro hl1 hl2)
  have ELx := Lib.hid (hE1.keep (S' := fun b => b < w1.heap.size) (fun _ _ _ => rfl) (fun b hb => hb.2))
  have HBw1 := Lib.hid (bthen HBw.out hbw1 HBw.out.size)
  have zww1 : w.heap.size ≤ w1.heap.size := hbw1.size
  have Eopsw1 := Lib.hid (Eopsw.out.below hbw1)
  have Eraww1 := Lib.hid (Eraww.out.below hbw1)
  have Etabw1 := Lib.hid (Etabw.out.below hbw1 Etabw.out.1)
  clear hbw1 hO hv h0 hl1 hl2 hE1
  have ELw1 := ELx
  clear ELx
  obtain ⟨w2, hww2⟩ : ∃ wq : World, wq = w1.alloc (.cells #[.int .i64 8, .int .i64 0, .int .i64 t.opn, .int .i64 t.cls, .slice A1 t.levels.length c1] 65) := ⟨_, rfl⟩
  have HWw2 := Lib.hid hww2
  have hbw2 : Below w1.heap.size w1 w2 := by rw [hww2]; exact (Below.refl _ _).alloc (Nat.le_refl _) _
  have HTw2 : Hid (Blk' w2 w1.heap.size 65 #[.int .i64 8, .int .i64 0, .int .i64 t.opn, .int .i64 t.cls, .slice A1 t.levels.length c1]) := Lib.hid (by rw [hww2]; exact Blk'.new _ _ _)
  have Zw2 : Hid (w2.heap.size = w1.heap.size + 1) := Lib.hid (by rw [hww2]; simp)
  have HBw2 := Lib.hid (bthen HBw1.out hbw2 HBw1.out.size)
  have zw1w2 : w1.heap.size ≤ w2.heap.size := hbw2.size
  have Eopsw2 := Lib.hid (Eopsw1.out.below hbw2)
  have Eraww2 := Lib.hid (Eraww1.out.below hbw2)
  have Etabw2 := Lib.hid (Etabw1.out.below hbw2 Etabw1.out.1)
  have ELw2 := Lib.hid (ELw1.out.below hbw2)
  clear Eopsw1 Eraww1 Etabw1 ELw1
  clear hww2 hbw2
  have HLay := Lib.hid (Layered_any t A1 c1 (fun b => b < w1.heap.size) w2 H64.out QL.out.1 QL.out.2 ELw2.out (fun b hb => by have h0 : b < w1.heap.size := hb; omega) (V.out.small true).2.2)
  rw [T8.out, T0.out] at HLay
  have cT0w2 : w2.cell? ⟨w1.heap.size, 0, none⟩ = some (.int .i64 8) := HTw2.out.cell 0
  have cT1w2 : w2.cell? ⟨w1.heap.size, 1, none⟩ = some (.int .i64 0) := HTw2.out.cell 1
  have cT2w2 : w2.cell? ⟨w1.heap.size, 2, none⟩ = some (.int .i64 t.opn) := HTw2.out.cell 2
  have cT3w2 : w2.cell? ⟨w1.heap.size, 3, none⟩ = some (.int .i64 t.cls) := HTw2.out.cell 3
  have cT4w2 : w2.cell? ⟨w1.heap.size, 4, none⟩ = some (.slice A1 t.levels.length c1) := HTw2.out.cell 4
  have czTw2 : w1.heap.size < w2.heap.size := HTw2.out.lt
  go_wp2_with fail
  rw [← HWw2.out]
  clear cT0w2 cT1w2 cT2w2 cT3w2 cT4w2 czTw2
  refine (HLay.out).mono ?_
  rintro e w3 ⟨s3, v3, rfl, hs3, hv3, hbw3⟩
  rw [HC.out]
  obtain ⟨A3, c3, rfl, h31, h32, hE3⟩ := hs3.slice
  have QG := Lib.hid (And.intro h31 h32)
  have EGx := Lib.hid (hE3.keep (S' := fun b => b < w3.heap.size) (fun _ _ _ => rfl) (fun b hb => hb.2))
  have CG := Lib.hid (lay_check HC.out)
  have TG : Hid ((layG t).terms = 8) := Lib.hid (by unfold layG; rw [if_pos HC.out]; exact T8.out)
  have HU := Lib.hid (fun (ws : List Int) (x y : Tree) => lay_uniq HC.out (w := ws) (x := x) (y := y))
  obtain ⟨g, hg⟩ : ∃ g : Gram, g = layG t := ⟨_, rfl⟩
  rw [← hg] at QG EGx CG TG HU
  rw [← hg]
  have HBw3 := Lib.hid (bthen HBw2.out hbw3 HBw2.out.size)
  have zw2w3 : w2.heap.size ≤ w3.heap.size := hbw3.size
  have HTw3 := Lib.hid (HTw2.out.below hbw3 HTw2.out.lt)
  have Eopsw3 := Lib.hid (Eopsw2.out.below hbw3)
  have Eraww3 := Lib.hid (Eraww2.out.below hbw3)
  have Etabw3 := Lib.hid (Etabw2.out.below hbw3 Etabw2.out.1)
  have ELw3 := Lib.hid (ELw2.out.below hbw3)
  clear HTw2 Eopsw2 Eraww2 Etabw2 ELw2
  clear hbw3 HLay hs3 hv3 h31 h32 hE3 hg
  have EGw3 := EGx
  clear EGx
  obtain ⟨w4, hww4⟩ : ∃ wq : World, wq = w3.alloc (.cells #[.int .i64 g.terms, .int .i64 g.nons, .int .i64 g.start, .slice A3 g.rules.length c3] 24) := ⟨_, rfl⟩
  have HWw4 := Lib.hid hww4
  have hbw4 : Below w3.heap.size w3 w4 := by rw [hww4]; exact (Below.refl _ _).alloc (Nat.le_refl _) _
  have HGw4 : Hid (Blk' w4 w3.heap.size 24 #[.int .i64 g.terms, .int .i64 g.nons, .int .i64 g.start, .slice A3 g.rules.length c3]) := Lib.hid (by rw [hww4]; exact Blk'.new _ _ _)
  have Zw4 : Hid (w4.heap.size = w3.heap.size + 1) := Lib.hid (by rw [hww4]; simp)
  have HBw4 := Lib.hid (bthen HBw3.out hbw4 HBw3.out.size)
  have zw3w4 : w3.heap.size ≤ w4.heap.size := hbw4.size
  have HTw4 := Lib.hid (HTw3.out.below hbw4 HTw3.out.lt)
  have Eopsw4 := Lib.hid (Eopsw3.out.below hbw4)
  have Eraww4 := Lib.hid (Eraww3.out.below hbw4)
  have Etabw4 := Lib.hid (Etabw3.out.below hbw4 Etabw3.out.1)
  have ELw4 := Lib.hid (ELw3.out.below hbw4)
  have EGw4 := Lib.hid (EGw3.out.below hbw4)
  clear HTw3 Eopsw3 Eraww3 Etabw3 ELw3 EGw3
  clear hww4 hbw4
  go_wp2_with fail
  rw [← HWw4.out]
  refine (climbs_any w4).mono ?_
  rintro e w5 ⟨rfl, hbw5⟩
  have HBw5 := Lib.hid (bthen HBw4.out hbw5 HBw4.out.size)
  have zw4w5 : w4.heap.size ≤ w5.heap.size := hbw5.size
  have HTw5 := Lib.hid (HTw4.out.below hbw5 HTw4.out.lt)
  have HGw5 := Lib.hid (HGw4.out.below hbw5 HGw4.out.lt)
  have Eopsw5 := Lib.hid (Eopsw4.out.below hbw5)
  have Eraww5 := Lib.hid (Eraww4.out.below hbw5)
  have Etabw5 := Lib.hid (Etabw4.out.below hbw5 Etabw4.out.1)
  have ELw5 := Lib.hid (ELw4.out.below hbw5)
  have EGw5 := Lib.hid (EGw4.out.below hbw5)
  clear HTw4 HGw4 Eopsw4 Eraww4 Etabw4 ELw4 EGw4
  clear hbw5
  go_upto_region 5 with (fail)
  have cG0w5 : w5.cell? ⟨w3.heap.size, 0, none⟩ = some (.int .i64 g.terms) := HGw5.out.cell 0
  have cG1w5 : w5.cell? ⟨w3.heap.size, 1, none⟩ = some (.int .i64 g.nons) := HGw5.out.cell 1
  have cG2w5 : w5.cell? ⟨w3.heap.size, 2, none⟩ = some (.int .i64 g.start) := HGw5.out.cell 2
  have cG3w5 : w5.cell? ⟨w3.heap.size, 3, none⟩ = some (.slice A3 g.rules.length c3) := HGw5.out.cell 3
  have czGw5 : w3.heap.size < w5.heap.size := HGw5.out.lt
  refine wp_region_noPanic ?_
  refine wp_region_held_drew (S := (fun w' => w'.cell? ⟨w3.heap.size, 0, none⟩ = some (.int .i64 g.terms) ∧ w'.cell? ⟨w3.heap.size, 1, none⟩ = some (.int .i64 g.nons) ∧ w'.cell? ⟨w3.heap.size, 2, none⟩ = some (.int .i64 g.start) ∧ w'.cell? ⟨w3.heap.size, 3, none⟩ = some (.slice A3 g.rules.length c3))) (by kernel_rfl) ?ha (fun hHeld => ?ba)
  case ha => ((try dsimp only); go_keep)
  have hbw5d : Below w5.heap.size w5 w5.drew := (Below.refl _ _).drew
  have HBw5d := Lib.hid (bthen HBw5.out hbw5d HBw5.out.size)
  have zw5w5d : w5.heap.size ≤ w5.drew.heap.size := hbw5d.size
  have HTw5d := Lib.hid (HTw5.out.below hbw5d HTw5.out.lt)
  have HGw5d := Lib.hid (HGw5.out.below hbw5d HGw5.out.lt)
  have Eopsw5d := Lib.hid (Eopsw5.out.below hbw5d)
  have Eraww5d := Lib.hid (Eraww5.out.below hbw5d)
  have Etabw5d := Lib.hid (Etabw5.out.below hbw5d Etabw5.out.1)
  have ELw5d := Lib.hid (ELw5.out.below hbw5d)
  have EGw5d := Lib.hid (EGw5.out.below hbw5d)
  clear HTw5 HGw5 Eopsw5 Eraww5 Etabw5 ELw5 EGw5
  clear hbw5d
  clear cG0w5 cG1w5 cG2w5 cG3w5 czGw5
  have cG0w5d : w5.drew.cell? ⟨w3.heap.size, 0, none⟩ = some (.int .i64 g.terms) := HGw5d.out.cell 0
  have cG1w5d : w5.drew.cell? ⟨w3.heap.size, 1, none⟩ = some (.int .i64 g.nons) := HGw5d.out.cell 1
  have cG2w5d : w5.drew.cell? ⟨w3.heap.size, 2, none⟩ = some (.int .i64 g.start) := HGw5d.out.cell 2
  have cG3w5d : w5.drew.cell? ⟨w3.heap.size, 3, none⟩ = some (.slice A3 g.rules.length c3) := HGw5d.out.cell 3
  have czGw5d : w3.heap.size < w5.drew.heap.size := HGw5d.out.lt
  refine take_run (i := 0) (v := ?va0) rfl (by kernel_rfl) (by kernel_rfl) (by kernel_rfl) (fun _ _ _ h => h) (by rfl) ?ya0 (by assumption) ?ra0
  case ya0 => (intro w hSw; (try dsimp only at hSw); go_simp; try with_reducible rfl)
  try simp only [Act.put, List.setIfInBounds_toArray, List.set_cons_zero, List.set_cons_succ]
  refine take_run (i := 1) (v := ?va1) rfl (by kernel_rfl) (by kernel_rfl) (by kernel_rfl) (fun _ _ _ h => h) (by rfl) ?ya1 (by assumption) ?ra1
  case ya1 => (intro w hSw; (try dsimp only at hSw); go_simp; try with_reducible rfl)
  try simp only [Act.put, List.setIfInBounds_toArray, List.set_cons_zero, List.set_cons_succ]
  refine take_call (i := 2) rfl (by kernel_rfl) (by rfl) (fun Kq hK => ?_)
  go_simp
  go_at_call 18
  refine (mkword_any 8 9 raw Araw craw S0 w5.drew (by omega) (by omega) (by omega) Draw.out.1 Draw.out.2 Eraww5d.out (fun b hb => Nat.lt_of_lt_of_le (HS0.out b hb) HBw5d.out.size)).mono ?_
  rintro e w6 ⟨v, ws, rfl, hwl, hwr, hwo, hbw6⟩
  obtain ⟨WA, wc, rfl, hw1, hw2, _⟩ := hwo.form
  have HW := Lib.hid (And.intro hw1 hw2)
  have HWr := Lib.hid (show wordE g.terms ws 12 = 0 from by rw [TG.out]; exact word_rg2 (by omega) hwr)
  have EYx := Lib.hid (hwo.vl.els.2.2.2.keep (S' := fun b => b < w6.heap.size) (fun _ _ _ => rfl) (fun b hb => hb.2))
  have HBw6 := Lib.hid (bthen HBw5d.out hbw6 HBw5d.out.size)
  have zw5dw6 : w5.drew.heap.size ≤ w6.heap.size := hbw6.size
  have HTw6 := Lib.hid (HTw5d.out.below hbw6 HTw5d.out.lt)
  have HGw6 := Lib.hid (HGw5d.out.below hbw6 HGw5d.out.lt)
  have Eopsw6 := Lib.hid (Eopsw5d.out.below hbw6)
  have Eraww6 := Lib.hid (Eraww5d.out.below hbw6)
  have Etabw6 := Lib.hid (Etabw5d.out.below hbw6 Etabw5d.out.1)
  have ELw6 := Lib.hid (ELw5d.out.below hbw6)
  have EGw6 := Lib.hid (EGw5d.out.below hbw6)
  clear HTw5d HGw5d Eopsw5d Eraww5d Etabw5d ELw5d EGw5d
  clear hbw6 hwl hwr hwo hw1 hw2 cG0w5d cG1w5d cG2w5d cG3w5d czGw5d
  have EYw6 := EYx
  clear EYx
  have cG0w6 : w6.cell? ⟨w3.heap.size, 0, none⟩ = some (.int .i64 g.terms) := HGw6.out.cell 0
  have cG1w6 : w6.cell? ⟨w3.heap.size, 1, none⟩ = some (.int .i64 g.nons) := HGw6.out.cell 1
  have cG2w6 : w6.cell? ⟨w3.heap.size, 2, none⟩ = some (.int .i64 g.start) := HGw6.out.cell 2
  have cG3w6 : w6.cell? ⟨w3.heap.size, 3, none⟩ = some (.slice A3 g.rules.length c3) := HGw6.out.cell 3
  have czGw6 : w3.heap.size < w6.heap.size := HGw6.out.lt
  refine hK.out _ _ ?ha2 (fun hHeld => ?ra2)
  case ha2 => ((try dsimp only); go_keep)
  clear hK Kq
  try simp only [Act.put, List.setIfInBounds_toArray, List.set_cons_zero, List.set_cons_succ]
  refine take_call (i := 3) rfl (by kernel_rfl) (by rfl) (fun Kq hK => ?_)
  go_simp
  go_at_call 21
  refine (meanCount_any g ws A3 WA c3 wc (fun b => b < w3.heap.size) (fun b => b < w6.heap.size) w6 CG.out QG.out.1 QG.out.2 EGw6.out (fun b hb => by have h0 : b < w3.heap.size := hb; omega) EYw6.out (fun b hb => by have h0 : b < w6.heap.size := hb; omega) HWr.out Etabw6.out).mono ?_
  rintro e w7 ⟨n, rfl, hn, hn64, hbw7⟩
  have K01 := Lib.hid (cnt_one hn (fun x y => HU.out ws x y))
  have HBw7 := Lib.hid (bthen HBw6.out hbw7 HBw6.out.size)
  have zw6w7 : w6.heap.size ≤ w7.heap.size := hbw7.size
  have HTw7 := Lib.hid (HTw6.out.below hbw7 HTw6.out.lt)
  have HGw7 := Lib.hid (HGw6.out.below hbw7 HGw6.out.lt)
  have Eopsw7 := Lib.hid (Eopsw6.out.below hbw7)
  have Eraww7 := Lib.hid (Eraww6.out.below hbw7)
  have Etabw7 := Lib.hid (Etabw6.out.below hbw7 Etabw6.out.1)
  have ELw7 := Lib.hid (ELw6.out.below hbw7)
  have EGw7 := Lib.hid (EGw6.out.below hbw7)
  have EYw7 := Lib.hid (EYw6.out.below hbw7)
  clear HTw6 HGw6 Eopsw6 Eraww6 Etabw6 ELw6 EGw6 EYw6
  clear hbw7 hn cG0w6 cG1w6 cG2w6 cG3w6 czGw6
  have cG0w7 : w7.cell? ⟨w3.heap.size, 0, none⟩ = some (.int .i64 g.terms) := HGw7.out.cell 0
  have cG1w7 : w7.cell? ⟨w3.heap.size, 1, none⟩ = some (.int .i64 g.nons) := HGw7.out.cell 1
  have cG2w7 : w7.cell? ⟨w3.heap.size, 2, none⟩ = some (.int .i64 g.start) := HGw7.out.cell 2
  have cG3w7 : w7.cell? ⟨w3.heap.size, 3, none⟩ = some (.slice A3 g.rules.length c3) := HGw7.out.cell 3
  have czGw7 : w3.heap.size < w7.heap.size := HGw7.out.lt
  refine hK.out _ _ ?ha3 (fun hHeld => ?ra3)
  case ha3 => ((try dsimp only); go_keep)
  clear hK Kq
  try simp only [Act.put, List.setIfInBounds_toArray, List.set_cons_zero, List.set_cons_succ]
  refine take_run (i := 4) (v := ?va4) rfl (by kernel_rfl) (by kernel_rfl) (by kernel_rfl) (fun _ _ _ h => h) (by rfl) ?ya4 (by assumption) ?ra4
  case ya4 => (intro w hSw; (try dsimp only at hSw); go_simp; try with_reducible rfl)
  try simp only [Act.put, List.setIfInBounds_toArray, List.set_cons_zero, List.set_cons_succ]
  refine take_run (i := 5) (v := ?va5) rfl (by kernel_rfl) (by kernel_rfl) (by kernel_rfl) (fun _ _ _ h => h) (by rfl) ?ya5 (by assumption) ?ra5
  case ya5 => (intro w hSw; (try dsimp only at hSw); go_simp; try with_reducible rfl)
  try simp only [Act.put, List.setIfInBounds_toArray, List.set_cons_zero, List.set_cons_succ]
  refine take_run (i := 6) (v := ?va6) rfl (by kernel_rfl) (by kernel_rfl) (by kernel_rfl) (fun _ _ _ h => h) (by rfl) ?ya6 (by assumption) ?ra6
  case ya6 => (intro w hSw; (try dsimp only at hSw); go_simp; try with_reducible rfl)
  try simp only [Act.put, List.setIfInBounds_toArray, List.set_cons_zero, List.set_cons_succ]
  refine take_run (i := 7) (v := ?va7) rfl (by kernel_rfl) (by kernel_rfl) (by kernel_rfl) (fun _ _ _ h => h) (by rfl) ?ya7 (by assumption) ?ra7
  case ya7 => (intro w hSw; (try dsimp only at hSw); go_simp; try with_reducible rfl)
  try simp only [Act.put, List.setIfInBounds_toArray, List.set_cons_zero, List.set_cons_succ]
  refine take_run (i := 8) (v := ?va8) rfl (by kernel_rfl) (by kernel_rfl) (by kernel_rfl) (fun _ _ _ h => h) (by rfl) ?ya8 (by assumption) ?ra8
  case ya8 => (intro w hSw; (try dsimp only at hSw); go_simp; try with_reducible rfl)
  try simp only [Act.put, List.setIfInBounds_toArray, List.set_cons_zero, List.set_cons_succ]
  refine wpAnyH_done (by kernel_rfl) ?_ _
  refine NoPanic.normal ?_
  rcases K01.out with rfl | rfl
  · go_wp2
    go_ret
    exact ⟨rfl, HBw7.out⟩
  · go_wp2
    go_ret
    exact ⟨rfl, HBw7.out⟩

theorem precUnambiguous_row (ops raw : List Int) (v0 v1 : Value) (W : World) (h0 : Vl W (OldS W) ops v0) (h1 : Vl W (OldS W) raw v1) (hT : Tab32 W) :
    Calls Tryd.prog 6 #[v0, v1] W fun e W' => e = .returned (.bool true) ∧ Below W.heap.size W W' := by
  obtain ⟨A0, c0, rfl, p0, q0, e0⟩ := h0.slice
  obtain ⟨A1, c1, rfl, p1, q1, e1⟩ := h1.slice
  exact precUnambiguous_any ops A0 c0 raw A1 c1 (OldS W) W p0 q0 e0 p1 q1 e1 (fun b h => h) hT
end Go.Proofs.YtjdojogjogenkaaDoor
