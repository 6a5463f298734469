/- The walk of the law ClosedUnion: a word has as many trees in the union as in both grammars together. -/
import Derived.Test.YtnlpeiffbnlncaaDoorQMeanCount
import Derived.Test.YtnlpeiffbnlncaaDoorQUniChk
import Derived.Test.YtnlpeiffbnlncaaDoorQClosedUni
import Derived.Test.YtnlpeiffbnlncaaDoorQSameK
import Derived.Test.YtnlpeiffbnlncaaDoorQMkWord
import Derived.Test.YtnlpeiffbnlncaaDoorQCloses
import Derived.Test.YtnlpeiffbnlncaaDoorQp1
import Derived.IntWalk
namespace Go.Proofs.YtnlpeiffbnlncaaDoor
open Go.RowKit
set_option linter.unusedVariables false

set_option maxRecDepth 100000 in
set_option maxHeartbeats 4000000 in
theorem closedUnion_any (ra : List Int) (Ara : Option Addr) (cra : Nat) (rb : List Int) (Arb : Option Addr) (crb : Nat) (word : List Int) (Aword : Option Addr) (cword : Nat) (S0 : Nat → Prop) (w : World) (hra : ra.length ≤ cra) (mra : cra ≤ 9223372036854775807) (Era : Els w S0 ra Ara) (hrb : rb.length ≤ crb) (mrb : crb ≤ 9223372036854775807) (Erb : Els w S0 rb Arb) (hword : word.length ≤ cword) (mword : cword ≤ 9223372036854775807) (Eword : Els w S0 word Aword) (hS0 : ∀ b, S0 b → b < w.heap.size) (hTab : Tab32 w) :
    Calls Tryd.prog 3 #[.slice Ara ra.length cra, .slice Arb rb.length crb, .slice Aword word.length cword] w fun e w' => e = .returned (.bool true) ∧ Below w.heap.size w w' := by
  have Eraw := Lib.hid Era
  have Dra := Lib.hid (And.intro hra mra)
  have Erbw := Lib.hid Erb
  have Drb := Lib.hid (And.intro hrb mrb)
  have Ewordw := Lib.hid Eword
  have Dword := Lib.hid (And.intro hword mword)
  have HS0 := Lib.hid hS0
  have HBw : Hid (Below w.heap.size w w) := Lib.hid (Below.refl _ _)
  clear hS0 Era hra mra Erb hrb mrb Eword hword mword
  have Etabw := Lib.hid hTab
  clear hTab
  go_enter Tryd.func3, Tryd.ntmps3
  go_wp2_with fail
  refine (same_any Ara Arb cra crb ra rb S0 w Dra.out.1 Dra.out.2 Eraw.out Drb.out.1 Drb.out.2 Erbw.out (fun b hb => Nat.lt_of_lt_of_le (HS0.out b hb) HBw.out.size)).mono ?_
  rintro e w1 ⟨g, h, A, B, c, d, hmg, hmh, hte, rfl, hlc, hc, hld, hd, hA, hB, hbw1⟩
  have HMg := Lib.hid hmg
  have HMh := Lib.hid hmh
  have HTe := Lib.hid hte
  have QG := Lib.hid (And.intro hlc hc)
  have QH := Lib.hid (And.intro hld hd)
  have EAx := Lib.hid hA
  have EBx := Lib.hid hB
  have VG := Lib.hid (validG_of (made_ok hmg))
  have VH := Lib.hid (validG_of (made_ok hmh))
  have HBw1 := Lib.hid (bthen HBw.out hbw1 HBw.out.size)
  have zww1 : w.heap.size ≤ w1.heap.size := hbw1.size
  have Eraw1 := Lib.hid (Eraw.out.below hbw1)
  have Erbw1 := Lib.hid (Erbw.out.below hbw1)
  have Ewordw1 := Lib.hid (Ewordw.out.below hbw1)
  have Etabw1 := Lib.hid (Etabw.out.below hbw1 Etabw.out.1)
  clear hbw1 hmg hmh hte hlc hc hld hd hA hB
  have EAw1 := EAx
  have EBw1 := EBx
  clear EAx EBx
  obtain ⟨w2, hww2⟩ : ∃ wq : World, wq = w1.alloc (.cells #[.int .i64 g.terms, .int .i64 g.nons, .int .i64 g.start, .slice A g.rules.length c] 25) := ⟨_, rfl⟩
  have HWw2 := Lib.hid hww2
  have hbw2 : Below w1.heap.size w1 w2 := by rw [hww2]; exact (Below.refl _ _).alloc (Nat.le_refl _) _
  have HGw2 : Hid (Blk' w2 (w1.heap.size) 25 #[.int .i64 g.terms, .int .i64 g.nons, .int .i64 g.start, .slice A g.rules.length c]) := Lib.hid (by rw [hww2]; exact Blk'.new' _ _ _ (by rfl))
  have Zw2 : Hid (w2.heap.size = w1.heap.size + 1) := Lib.hid (by rw [hww2]; simp)
  have HBw2 := Lib.hid (bthen HBw1.out hbw2 HBw1.out.size)
  have zw1w2 : w1.heap.size ≤ w2.heap.size := hbw2.size
  have Eraw2 := Lib.hid (Eraw1.out.below hbw2)
  have Erbw2 := Lib.hid (Erbw1.out.below hbw2)
  have Ewordw2 := Lib.hid (Ewordw1.out.below hbw2)
  have Etabw2 := Lib.hid (Etabw1.out.below hbw2 Etabw1.out.1)
  have EAw2 := Lib.hid (EAw1.out.below hbw2)
  have EBw2 := Lib.hid (EBw1.out.below hbw2)
  clear Eraw1 Erbw1 Ewordw1 Etabw1 EAw1 EBw1
  clear hww2 hbw2
  obtain ⟨w3, hww3⟩ : ∃ wq : World, wq = w2.alloc (.cells #[.int .i64 h.terms, .int .i64 h.nons, .int .i64 h.start, .slice B h.rules.length d] 25) := ⟨_, rfl⟩
  have HWw3 := Lib.hid hww3
  have hbw3 : Below w2.heap.size w2 w3 := by rw [hww3]; exact (Below.refl _ _).alloc (Nat.le_refl _) _
  have HHw3 : Hid (Blk' w3 (w1.heap.size + 1) 25 #[.int .i64 h.terms, .int .i64 h.nons, .int .i64 h.start, .slice B h.rules.length d]) := Lib.hid (by rw [hww3]; exact Blk'.new' _ _ _ (by have := Zw2.out; omega))
  have Zw3 : Hid (w3.heap.size = w2.heap.size + 1) := Lib.hid (by rw [hww3]; simp)
  have HBw3 := Lib.hid (bthen HBw2.out hbw3 HBw2.out.size)
  have zw2w3 : w2.heap.size ≤ w3.heap.size := hbw3.size
  have HGw3 := Lib.hid (HGw2.out.below hbw3 HGw2.out.lt)
  have Eraw3 := Lib.hid (Eraw2.out.below hbw3)
  have Erbw3 := Lib.hid (Erbw2.out.below hbw3)
  have Ewordw3 := Lib.hid (Ewordw2.out.below hbw3)
  have Etabw3 := Lib.hid (Etabw2.out.below hbw3 Etabw2.out.1)
  have EAw3 := Lib.hid (EAw2.out.below hbw3)
  have EBw3 := Lib.hid (EBw2.out.below hbw3)
  clear HGw2 Eraw2 Erbw2 Ewordw2 Etabw2 EAw2 EBw2
  clear hww3 hbw3
  go_upto_region 2 with (fail)
  rw [← HWw2.out]
  rw [← HWw3.out]
  have cG0w3 : w3.cell? ⟨w1.heap.size, 0, none⟩ = some (.int .i64 g.terms) := HGw3.out.cell 0
  have cG1w3 : w3.cell? ⟨w1.heap.size, 1, none⟩ = some (.int .i64 g.nons) := HGw3.out.cell 1
  have cG2w3 : w3.cell? ⟨w1.heap.size, 2, none⟩ = some (.int .i64 g.start) := HGw3.out.cell 2
  have cG3w3 : w3.cell? ⟨w1.heap.size, 3, none⟩ = some (.slice A g.rules.length c) := HGw3.out.cell 3
  have czGw3 : w1.heap.size < w3.heap.size := HGw3.out.lt
  go_wp2_with fail
  clear cG0w3 cG1w3 cG2w3 cG3w3 czGw3
  refine (mkword_any g.terms 6 word Aword cword S0 w3 VG.out.t1 (by have := VG.out.t8; omega) (by omega) Dword.out.1 Dword.out.2 Ewordw3.out (fun b hb => Nat.lt_of_lt_of_le (HS0.out b hb) HBw3.out.size)).mono ?_
  rintro e w4 ⟨v, ws, rfl, hwl, hwr, hwo, hbw4⟩
  obtain ⟨WA, wc, rfl, hw1, hw2, _⟩ := hwo.form
  have HWr := Lib.hid (show wordE g.terms ws 12 = 0 from word_rg2 (by omega) hwr)
  have EYx := Lib.hid (hwo.vl.els.2.2.2.keep (S' := fun b => b < w4.heap.size) (fun _ _ _ => rfl) (fun b hb => hb.2))
  have HBw4 := Lib.hid (bthen HBw3.out hbw4 HBw3.out.size)
  have zw3w4 : w3.heap.size ≤ w4.heap.size := hbw4.size
  have HGw4 := Lib.hid (HGw3.out.below hbw4 HGw3.out.lt)
  have HHw4 := Lib.hid (HHw3.out.below hbw4 HHw3.out.lt)
  have Eraw4 := Lib.hid (Eraw3.out.below hbw4)
  have Erbw4 := Lib.hid (Erbw3.out.below hbw4)
  have Ewordw4 := Lib.hid (Ewordw3.out.below hbw4)
  have Etabw4 := Lib.hid (Etabw3.out.below hbw4 Etabw3.out.1)
  have EAw4 := Lib.hid (EAw3.out.below hbw4)
  have EBw4 := Lib.hid (EBw3.out.below hbw4)
  clear HGw3 HHw3 Eraw3 Erbw3 Ewordw3 Etabw3 EAw3 EBw3
  clear hbw4 hwl hwr hwo hw1 hw2
  have EYw4 := EYx
  clear EYx
  have cG0w4 : w4.cell? ⟨w1.heap.size, 0, none⟩ = some (.int .i64 g.terms) := HGw4.out.cell 0
  have cG1w4 : w4.cell? ⟨w1.heap.size, 1, none⟩ = some (.int .i64 g.nons) := HGw4.out.cell 1
  have cG2w4 : w4.cell? ⟨w1.heap.size, 2, none⟩ = some (.int .i64 g.start) := HGw4.out.cell 2
  have cG3w4 : w4.cell? ⟨w1.heap.size, 3, none⟩ = some (.slice A g.rules.length c) := HGw4.out.cell 3
  have czGw4 : w1.heap.size < w4.heap.size := HGw4.out.lt
  have cH0w4 : w4.cell? ⟨w1.heap.size + 1, 0, none⟩ = some (.int .i64 h.terms) := HHw4.out.cell 0
  have cH1w4 : w4.cell? ⟨w1.heap.size + 1, 1, none⟩ = some (.int .i64 h.nons) := HHw4.out.cell 1
  have cH2w4 : w4.cell? ⟨w1.heap.size + 1, 2, none⟩ = some (.int .i64 h.start) := HHw4.out.cell 2
  have cH3w4 : w4.cell? ⟨w1.heap.size + 1, 3, none⟩ = some (.slice B h.rules.length d) := HHw4.out.cell 3
  have czHw4 : w1.heap.size + 1 < w4.heap.size := HHw4.out.lt
  obtain ⟨u, hu⟩ : ∃ u, u = uniG g h := ⟨_, rfl⟩
  have hpr : pairR g h (llU g.start (g.nons + h.start)) = (u, 0) := by
    have hk := union_check HMg.out HMh.out HTe.out
    have he : twoG g h (llU g.start (g.nons + h.start)) = u := by rw [hu]; rfl
    unfold pairR
    rw [if_pos (by simp [firstE, made_ok HMg.out, made_ok HMh.out]), if_pos HTe.out, he]
    have h1 : errE u = 0 := by unfold errE; rw [if_neg (by rw [hu]; simp only [uniG]; omega), hu]; exact hk.1
    unfold mkR
    rw [if_pos h1]
  have HU := Lib.hid hu
  have CU : Hid (checkI u = 0) := Lib.hid (by rw [hu]; exact (union_check HMg.out HMh.out HTe.out).1)
  have HPr := Lib.hid hpr
  clear hu hpr
  go_wp2_with fail
  clear cG0w4 cG1w4 cG2w4 cG3w4 czGw4 cH0w4 cH1w4 cH2w4 cH3w4 czHw4
  refine (unionP_any g h A B c d (fun b => b < w1.heap.size) w4 VG.out.i64 VH.out.i64 QG.out.1 QG.out.2 EAw4.out QH.out.1 QH.out.2 EBw4.out (fun b hb => by have h0 : b < w1.heap.size := hb; omega)).mono ?_
  rintro e w5 ⟨AU, cU, he, hq1, hq2, hE, hbw5⟩
  rw [HPr.out] at he hq1 hE
  dsimp only at he hq1 hE
  subst he
  have QU := Lib.hid (And.intro hq1 hq2)
  have EUx := Lib.hid (hE.keep (S' := fun b => b < w5.heap.size) (fun _ _ _ => rfl) (fun b hb => hb.2))
  have HBw5 := Lib.hid (bthen HBw4.out hbw5 HBw4.out.size)
  have zw4w5 : w4.heap.size ≤ w5.heap.size := hbw5.size
  have HGw5 := Lib.hid (HGw4.out.below hbw5 HGw4.out.lt)
  have HHw5 := Lib.hid (HHw4.out.below hbw5 HHw4.out.lt)
  have Eraw5 := Lib.hid (Eraw4.out.below hbw5)
  have Erbw5 := Lib.hid (Erbw4.out.below hbw5)
  have Ewordw5 := Lib.hid (Ewordw4.out.below hbw5)
  have Etabw5 := Lib.hid (Etabw4.out.below hbw5 Etabw4.out.1)
  have EAw5 := Lib.hid (EAw4.out.below hbw5)
  have EBw5 := Lib.hid (EBw4.out.below hbw5)
  have EYw5 := Lib.hid (EYw4.out.below hbw5)
  clear HGw4 HHw4 Eraw4 Erbw4 Ewordw4 Etabw4 EAw4 EBw4 EYw4
  clear hbw5 hq1 hq2 hE
  have EUw5 := EUx
  clear EUx
  obtain ⟨w6, hww6⟩ : ∃ wq : World, wq = w5.alloc (.cells #[.int .i64 u.terms, .int .i64 u.nons, .int .i64 u.start, .slice AU u.rules.length cU] 25) := ⟨_, rfl⟩
  have HWw6 := Lib.hid hww6
  have hbw6 : Below w5.heap.size w5 w6 := by rw [hww6]; exact (Below.refl _ _).alloc (Nat.le_refl _) _
  have HUw6 : Hid (Blk' w6 w5.heap.size 25 #[.int .i64 u.terms, .int .i64 u.nons, .int .i64 u.start, .slice AU u.rules.length cU]) := Lib.hid (by rw [hww6]; exact Blk'.new _ _ _)
  have Zw6 : Hid (w6.heap.size = w5.heap.size + 1) := Lib.hid (by rw [hww6]; simp)
  have HBw6 := Lib.hid (bthen HBw5.out hbw6 HBw5.out.size)
  have zw5w6 : w5.heap.size ≤ w6.heap.size := hbw6.size
  have HGw6 := Lib.hid (HGw5.out.below hbw6 HGw5.out.lt)
  have HHw6 := Lib.hid (HHw5.out.below hbw6 HHw5.out.lt)
  have Eraw6 := Lib.hid (Eraw5.out.below hbw6)
  have Erbw6 := Lib.hid (Erbw5.out.below hbw6)
  have Ewordw6 := Lib.hid (Ewordw5.out.below hbw6)
  have Etabw6 := Lib.hid (Etabw5.out.below hbw6 Etabw5.out.1)
  have EAw6 := Lib.hid (EAw5.out.below hbw6)
  have EBw6 := Lib.hid (EBw5.out.below hbw6)
  have EYw6 := Lib.hid (EYw5.out.below hbw6)
  have EUw6 := Lib.hid (EUw5.out.below hbw6)
  clear HGw5 HHw5 Eraw5 Erbw5 Ewordw5 Etabw5 EAw5 EBw5 EYw5 EUw5
  clear hww6 hbw6
  go_upto_region 4 with (fail)
  rw [← HWw6.out]
  go_wp2_with fail
  refine (closes_any _).mono ?_
  rintro e w7 ⟨rfl, hbw7⟩
  have HBw7 := Lib.hid (bthen HBw6.out hbw7 HBw6.out.size)
  have zw6w7 : w6.heap.size ≤ w7.heap.size := hbw7.size
  have HGw7 := Lib.hid (HGw6.out.below hbw7 HGw6.out.lt)
  have HHw7 := Lib.hid (HHw6.out.below hbw7 HHw6.out.lt)
  have HUw7 := Lib.hid (HUw6.out.below hbw7 HUw6.out.lt)
  have Eraw7 := Lib.hid (Eraw6.out.below hbw7)
  have Erbw7 := Lib.hid (Erbw6.out.below hbw7)
  have Ewordw7 := Lib.hid (Ewordw6.out.below hbw7)
  have Etabw7 := Lib.hid (Etabw6.out.below hbw7 Etabw6.out.1)
  have EAw7 := Lib.hid (EAw6.out.below hbw7)
  have EBw7 := Lib.hid (EBw6.out.below hbw7)
  have EYw7 := Lib.hid (EYw6.out.below hbw7)
  have EUw7 := Lib.hid (EUw6.out.below hbw7)
  clear HGw6 HHw6 HUw6 Eraw6 Erbw6 Ewordw6 Etabw6 EAw6 EBw6 EYw6 EUw6
  clear hbw7
  have cG0w7 : w7.cell? ⟨w1.heap.size, 0, none⟩ = some (.int .i64 g.terms) := HGw7.out.cell 0
  have cG1w7 : w7.cell? ⟨w1.heap.size, 1, none⟩ = some (.int .i64 g.nons) := HGw7.out.cell 1
  have cG2w7 : w7.cell? ⟨w1.heap.size, 2, none⟩ = some (.int .i64 g.start) := HGw7.out.cell 2
  have cG3w7 : w7.cell? ⟨w1.heap.size, 3, none⟩ = some (.slice A g.rules.length c) := HGw7.out.cell 3
  have czGw7 : w1.heap.size < w7.heap.size := HGw7.out.lt
  go_wp2_with fail
  clear cG0w7 cG1w7 cG2w7 cG3w7 czGw7
  refine (meanCount_any g ws A WA c wc (fun b => b < w1.heap.size) (fun b => b < w4.heap.size) w7 (made_ok HMg.out) QG.out.1 QG.out.2 EAw7.out (fun b hb => by have h0 : b < w1.heap.size := hb; omega) EYw7.out (fun b hb => by have h0 : b < w4.heap.size := hb; omega) HWr.out Etabw7.out).mono ?_
  rintro e w8 ⟨x, rfl, hx, hx64, hbw8⟩
  have HX := Lib.hid hx
  have HX64 := Lib.hid hx64
  have HBw8 := Lib.hid (bthen HBw7.out hbw8 HBw7.out.size)
  have zw7w8 : w7.heap.size ≤ w8.heap.size := hbw8.size
  have HGw8 := Lib.hid (HGw7.out.below hbw8 HGw7.out.lt)
  have HHw8 := Lib.hid (HHw7.out.below hbw8 HHw7.out.lt)
  have HUw8 := Lib.hid (HUw7.out.below hbw8 HUw7.out.lt)
  have Eraw8 := Lib.hid (Eraw7.out.below hbw8)
  have Erbw8 := Lib.hid (Erbw7.out.below hbw8)
  have Ewordw8 := Lib.hid (Ewordw7.out.below hbw8)
  have Etabw8 := Lib.hid (Etabw7.out.below hbw8 Etabw7.out.1)
  have EAw8 := Lib.hid (EAw7.out.below hbw8)
  have EBw8 := Lib.hid (EBw7.out.below hbw8)
  have EYw8 := Lib.hid (EYw7.out.below hbw8)
  have EUw8 := Lib.hid (EUw7.out.below hbw8)
  clear HGw7 HHw7 HUw7 Eraw7 Erbw7 Ewordw7 Etabw7 EAw7 EBw7 EYw7 EUw7
  clear hbw8 hx hx64
  have cH0w8 : w8.cell? ⟨w1.heap.size + 1, 0, none⟩ = some (.int .i64 h.terms) := HHw8.out.cell 0
  have cH1w8 : w8.cell? ⟨w1.heap.size + 1, 1, none⟩ = some (.int .i64 h.nons) := HHw8.out.cell 1
  have cH2w8 : w8.cell? ⟨w1.heap.size + 1, 2, none⟩ = some (.int .i64 h.start) := HHw8.out.cell 2
  have cH3w8 : w8.cell? ⟨w1.heap.size + 1, 3, none⟩ = some (.slice B h.rules.length d) := HHw8.out.cell 3
  have czHw8 : w1.heap.size + 1 < w8.heap.size := HHw8.out.lt
  go_wp2_with fail
  clear cH0w8 cH1w8 cH2w8 cH3w8 czHw8
  refine (meanCount_any h ws B WA d wc (fun b => b < w1.heap.size) (fun b => b < w4.heap.size) w8 (made_ok HMh.out) QH.out.1 QH.out.2 EBw8.out (fun b hb => by have h0 : b < w1.heap.size := hb; omega) EYw8.out (fun b hb => by have h0 : b < w4.heap.size := hb; omega) (by rw [HTe.out]; exact HWr.out) Etabw8.out).mono ?_
  rintro e w9 ⟨y, rfl, hy, hy64, hbw9⟩
  have HY := Lib.hid hy
  have HY64 := Lib.hid hy64
  have HBw9 := Lib.hid (bthen HBw8.out hbw9 HBw8.out.size)
  have zw8w9 : w8.heap.size ≤ w9.heap.size := hbw9.size
  have HGw9 := Lib.hid (HGw8.out.below hbw9 HGw8.out.lt)
  have HHw9 := Lib.hid (HHw8.out.below hbw9 HHw8.out.lt)
  have HUw9 := Lib.hid (HUw8.out.below hbw9 HUw8.out.lt)
  have Eraw9 := Lib.hid (Eraw8.out.below hbw9)
  have Erbw9 := Lib.hid (Erbw8.out.below hbw9)
  have Ewordw9 := Lib.hid (Ewordw8.out.below hbw9)
  have Etabw9 := Lib.hid (Etabw8.out.below hbw9 Etabw8.out.1)
  have EAw9 := Lib.hid (EAw8.out.below hbw9)
  have EBw9 := Lib.hid (EBw8.out.below hbw9)
  have EYw9 := Lib.hid (EYw8.out.below hbw9)
  have EUw9 := Lib.hid (EUw8.out.below hbw9)
  clear HGw8 HHw8 HUw8 Eraw8 Erbw8 Ewordw8 Etabw8 EAw8 EBw8 EYw8 EUw8
  clear hbw9 hy hy64
  have cU0w9 : w9.cell? ⟨w5.heap.size, 0, none⟩ = some (.int .i64 u.terms) := HUw9.out.cell 0
  have cU1w9 : w9.cell? ⟨w5.heap.size, 1, none⟩ = some (.int .i64 u.nons) := HUw9.out.cell 1
  have cU2w9 : w9.cell? ⟨w5.heap.size, 2, none⟩ = some (.int .i64 u.start) := HUw9.out.cell 2
  have cU3w9 : w9.cell? ⟨w5.heap.size, 3, none⟩ = some (.slice AU u.rules.length cU) := HUw9.out.cell 3
  have czUw9 : w5.heap.size < w9.heap.size := HUw9.out.lt
  go_wp2_with fail
  clear cU0w9 cU1w9 cU2w9 cU3w9 czUw9
  refine (meanCount_any u ws AU WA cU wc (fun b => b < w5.heap.size) (fun b => b < w4.heap.size) w9 CU.out QU.out.1 QU.out.2 EUw9.out (fun b hb => by have h0 : b < w5.heap.size := hb; omega) EYw9.out (fun b hb => by have h0 : b < w4.heap.size := hb; omega) (by rw [HU.out]; exact HWr.out) Etabw9.out).mono ?_
  rintro e w10 ⟨z, rfl, hz, _, hbw10⟩
  have hs := uni_count VG.out VH.out HX.out HY.out (HU.out ▸ hz)
  have HBw10 := Lib.hid (bthen HBw9.out hbw10 HBw9.out.size)
  have zw9w10 : w9.heap.size ≤ w10.heap.size := hbw10.size
  have HGw10 := Lib.hid (HGw9.out.below hbw10 HGw9.out.lt)
  have HHw10 := Lib.hid (HHw9.out.below hbw10 HHw9.out.lt)
  have HUw10 := Lib.hid (HUw9.out.below hbw10 HUw9.out.lt)
  have Eraw10 := Lib.hid (Eraw9.out.below hbw10)
  have Erbw10 := Lib.hid (Erbw9.out.below hbw10)
  have Ewordw10 := Lib.hid (Ewordw9.out.below hbw10)
  have Etabw10 := Lib.hid (Etabw9.out.below hbw10 Etabw9.out.1)
  have EAw10 := Lib.hid (EAw9.out.below hbw10)
  have EBw10 := Lib.hid (EBw9.out.below hbw10)
  have EYw10 := Lib.hid (EYw9.out.below hbw10)
  have EUw10 := Lib.hid (EUw9.out.below hbw10)
  clear HGw9 HHw9 HUw9 Eraw9 Erbw9 Ewordw9 Etabw9 EAw9 EBw9 EYw9 EUw9
  clear hbw10 hz
  by_cases hxm : x = -1
  · have hz1 : z = -1 := hs.1 (.inl hxm)
    subst hxm; subst hz1
    clear hs
    go_wp2
    go_ret
    exact ⟨rfl, HBw10.out⟩
  · by_cases hym : y = -1
    · have hz1 : z = -1 := hs.1 (.inr hym)
      subst hym; subst hz1
      have hx1 : (x == -1) = false := by simpa using hxm
      clear hs
      go_wp2
      go_ret
      exact ⟨rfl, HBw10.out⟩
    · obtain ⟨hz1, hle, hx0, hy0⟩ := hs.2 hxm hym
      have hx1 : (x == -1) = false := by simpa using hxm
      have hy1 : (y == -1) = false := by simpa using hym
      have hw : IntKind.i64.wrap (x + y) = x + y := IntWalk.i64_in _ (by omega)
      have HZ := Lib.hid hz1
      clear hs hz1
      go_wp2
      go_ret
      refine ⟨?_, HBw10.out⟩
      rw [HZ.out]
      simp

theorem closedUnion_row (ra rb word : List Int) (v0 v1 v2 : Value) (W : World) (h0 : Vl W (OldS W) ra v0) (h1 : Vl W (OldS W) rb v1) (h2 : Vl W (OldS W) word v2) (hT : Tab32 W) :
    Calls Tryd.prog 3 #[v0, v1, v2] W fun e W' => e = .returned (.bool true) ∧ Below W.heap.size W W' := by
  obtain ⟨A0, c0, rfl, p0, q0, e0⟩ := h0.slice
  obtain ⟨A1, c1, rfl, p1, q1, e1⟩ := h1.slice
  obtain ⟨A2, c2, rfl, p2, q2, e2⟩ := h2.slice
  exact closedUnion_any ra A0 c0 rb A1 c1 word A2 c2 (OldS W) W p0 q0 e0 p1 q1 e1 p2 q2 e2 (fun b h => h) hT
end Go.Proofs.YtnlpeiffbnlncaaDoor
