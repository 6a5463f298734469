/- The walk of the law ClosedReverse: a word has as many trees in the reversed grammar as its reversal in the grammar; Mirror converts them. -/
import Derived.Test.YtnlpeiffbnlncaaDoorQMeanCount
import Derived.Test.YtnlpeiffbnlncaaDoorQRevChk
import Derived.Test.YtnlpeiffbnlncaaDoorQw2
import Derived.Test.YtnlpeiffbnlncaaDoorQReverse
import Derived.Test.YtnlpeiffbnlncaaDoorQp3
import Derived.Test.YtnlpeiffbnlncaaDoorQGrammar
import Derived.Test.YtnlpeiffbnlncaaDoorQApartP
import Derived.Test.YtnlpeiffbnlncaaDoorQMakeTreeTop
import Derived.Test.YtnlpeiffbnlncaaDoorQCloses
import Derived.Test.YtnlpeiffbnlncaaDoorQGTree
import Derived.Test.YtnlpeiffbnlncaaDoorQp1
namespace Go.Proofs.YtnlpeiffbnlncaaDoor
open Go.RowKit
set_option linter.unusedVariables false

theorem reversed2_any (l : List Int) (A : Option Addr) (c : Nat) (S : Nat → Prop) (w : World) (hm : l.length ≤ 1000000) (hc : c ≤ 9223372036854775807) (hA : Els w S l A) :
    Calls Tryd.prog 21 #[.slice A l.length c] w fun e w' => ∃ (A' : Option Addr) (c' : Nat) (rl : List Int), rl = l.reverse ∧ e = .returned (.slice A' rl.length c') ∧ Els w' (fun b => w.heap.size ≤ b ∧ b < w'.heap.size) rl A' ∧ Below w.heap.size w w' :=
  (reversed_any l A c S w hm hc hA).mono fun e w' ⟨A', c', h1, h2, h3⟩ => ⟨A', c', _, rfl, by rw [List.length_reverse]; exact h1, h2, h3⟩
theorem reverse2_any (g : Gram) (A : Option Addr) (c : Nat) (S : Nat → Prop) (w : World) (hck : checkI g = 0) (hlc : g.rules.length ≤ c) (hc : c ≤ 9223372036854775807) (hA : Els w S g.rules A) (hS : ∀ b, S b → b < w.heap.size) :
    Calls Tryd.prog 20 #[.agg #[.int .i64 g.terms, .int .i64 g.nons, .int .i64 g.start, .slice A g.rules.length c]] w fun e w' => ∃ (A' : Option Addr) (c' : Nat) (rr : List Rule), rr = g.rules.map revR ∧ e = .returned (.tuple #[.agg #[.int .i64 g.terms, .int .i64 g.nons, .int .i64 g.start, .slice A' rr.length c'], .int .i64 0]) ∧ rr.length ≤ c' ∧ c' ≤ 9223372036854775807 ∧ Els w' (fun b => w.heap.size ≤ b ∧ b < w'.heap.size) rr A' ∧ Below w.heap.size w w' :=
  (reverse_any g A c S w hck hlc hc hA hS).mono fun e w' ⟨A', c', h1, h2, h3, h4, h5⟩ => ⟨A', c', _, rfl, by rw [List.length_map]; exact h1, by rw [List.length_map]; exact h2, h3, h4, h5⟩

set_option maxRecDepth 100000 in
set_option maxHeartbeats 8000000 in
theorem closedReverse_any (raw : List Int) (Araw : Option Addr) (craw : Nat) (word : List Int) (Aword : Option Addr) (cword : Nat) (ch : List Int) (Ach : Option Addr) (cch : Nat) (S0 : Nat → Prop) (w : World) (hraw : raw.length ≤ craw) (mraw : craw ≤ 9223372036854775807) (Eraw : Els w S0 raw Araw) (hword : word.length ≤ cword) (mword : cword ≤ 9223372036854775807) (Eword : Els w S0 word Aword) (hch : ch.length ≤ cch) (mch : cch ≤ 9223372036854775807) (Ech : Els w S0 ch Ach) (hS0 : ∀ b, S0 b → b < w.heap.size) (hTab : Tab32 w) :
    Calls Tryd.prog 6 #[.slice Araw raw.length craw, .slice Aword word.length cword, .slice Ach ch.length cch] w fun e w' => e = .returned (.bool true) ∧ Below w.heap.size w w' := by
  have Eraww := Lib.hid Eraw
  have Draw := Lib.hid (And.intro hraw mraw)
  have Ewordw := Lib.hid Eword
  have Dword := Lib.hid (And.intro hword mword)
  have Echw := Lib.hid Ech
  have Dch := Lib.hid (And.intro hch mch)
  have HS0 := Lib.hid hS0
  have HBw : Hid (Below w.heap.size w w) := Lib.hid (Below.refl _ _)
  clear hS0 Eraw hraw mraw Eword hword mword Ech hch mch
  have Etabw := Lib.hid hTab
  clear hTab
  go_enter Tryd.func6, Tryd.ntmps6
  go_wp2_with fail
  refine (grammar_any Araw craw raw S0 w Draw.out.1 Draw.out.2 Eraww.out (fun b hb => Nat.lt_of_lt_of_le (HS0.out b hb) HBw.out.size)).mono ?_
  rintro e w1 ⟨g, v, hmade, rfl, hvl, hbw1⟩
  obtain ⟨s, rfl, _, _, _, hs⟩ := hvl.gram
  obtain ⟨A, c, rfl, hlc, hc, hA⟩ := hs.slice
  have hck := made_check hmade
  have hvg := validG_of hck
  obtain ⟨t, nn, ss, rs⟩ := g
  dsimp only at *
  obtain ⟨gn, hn⟩ : ∃ n : Nat, nn = (n : Int) := ⟨nn.toNat, by have := hvg.n1; dsimp only at this; omega⟩
  obtain ⟨gm, hm⟩ : ∃ m : Nat, t = (m : Int) := ⟨t.toNat, by have := hvg.t1; dsimp only at this; omega⟩
  obtain ⟨gs, hs0⟩ : ∃ y : Nat, ss = (y : Int) := ⟨ss.toNat, by have := hvg.s0; dsimp only at this; omega⟩
  subst hn; subst hm; subst hs0
  have HMade := Lib.hid hmade
  have C := Lib.hid hck
  have V := Lib.hid hvg
  have Q := Lib.hid (And.intro hlc hc)
  have EX := Lib.hid (hA.keep (S' := fun b => b < w1.heap.size) (fun _ _ _ => rfl) (fun b hb => hb.2))
  have HBw1 := Lib.hid (bthen HBw.out hbw1 HBw.out.size)
  have zww1 : w.heap.size ≤ w1.heap.size := hbw1.size
  have Eraww1 := Lib.hid (Eraww.out.below hbw1)
  have Ewordw1 := Lib.hid (Ewordw.out.below hbw1)
  have Echw1 := Lib.hid (Echw.out.below hbw1)
  have Etabw1 := Lib.hid (Etabw.out.below hbw1 Etabw.out.1)
  clear hbw1 hvl hs hA hmade hck hvg hlc hc
  have EAw1 := EX
  clear EX
  obtain ⟨w2, hww2⟩ : ∃ wq : World, wq = w1.alloc (.cells #[.int .i64 (gm : Int), .int .i64 (gn : Int), .int .i64 (gs : Int), .slice A rs.length c] 25) := ⟨_, rfl⟩
  have HWw2 := Lib.hid hww2
  have hbw2 : Below w1.heap.size w1 w2 := by rw [hww2]; exact (Below.refl _ _).alloc (Nat.le_refl _) _
  have HGw2 : Hid (Blk' w2 w1.heap.size 25 #[.int .i64 (gm : Int), .int .i64 (gn : Int), .int .i64 (gs : Int), .slice A rs.length c]) := Lib.hid (by rw [hww2]; exact Blk'.new _ _ _)
  have Zw2 : Hid (w2.heap.size = w1.heap.size + 1) := Lib.hid (by rw [hww2]; simp)
  have HBw2 := Lib.hid (bthen HBw1.out hbw2 HBw1.out.size)
  have zw1w2 : w1.heap.size ≤ w2.heap.size := hbw2.size
  have Eraww2 := Lib.hid (Eraww1.out.below hbw2)
  have Ewordw2 := Lib.hid (Ewordw1.out.below hbw2)
  have Echw2 := Lib.hid (Echw1.out.below hbw2)
  have Etabw2 := Lib.hid (Etabw1.out.below hbw2 Etabw1.out.1)
  have EAw2 := Lib.hid (EAw1.out.below hbw2)
  clear Eraww1 Ewordw1 Echw1 Etabw1 EAw1
  clear hww2 hbw2
  go_upto_region 2 with (fail)
  rw [← HWw2.out]
  have cG0w2 : w2.cell? ⟨w1.heap.size, 0, none⟩ = some (.int .i64 (gm : Int)) := HGw2.out.cell 0
  have cG1w2 : w2.cell? ⟨w1.heap.size, 1, none⟩ = some (.int .i64 (gn : Int)) := HGw2.out.cell 1
  have cG2w2 : w2.cell? ⟨w1.heap.size, 2, none⟩ = some (.int .i64 (gs : Int)) := HGw2.out.cell 2
  have cG3w2 : w2.cell? ⟨w1.heap.size, 3, none⟩ = some (.slice A rs.length c) := HGw2.out.cell 3
  have czGw2 : w1.heap.size < w2.heap.size := HGw2.out.lt
  go_wp2_with fail
  clear cG0w2 cG1w2 cG2w2 cG3w2 czGw2
  refine (mkword_any (gm : Int) 6 word Aword cword S0 w2 (by have := V.out.t1; (try dsimp only at this); omega) (by have := V.out.t8; (try dsimp only at this); omega) (by omega) Dword.out.1 Dword.out.2 Ewordw2.out (fun b hb => Nat.lt_of_lt_of_le (HS0.out b hb) HBw2.out.size)).mono ?_
  rintro e w3 ⟨v, ws, rfl, hwl, hwr, hwo, hbw3⟩
  obtain ⟨WA, wc, rfl, hw1, hw2, _⟩ := hwo.form
  have HW := Lib.hid (And.intro hw1 (And.intro hw2 hwl))
  have HWr := Lib.hid (show wordE (gm : Int) ws 12 = 0 from word_rg2 (by omega) hwr)
  have HWv := Lib.hid (show wordE (gm : Int) ws.reverse 12 = 0 from word_rg2 (by rw [List.length_reverse]; omega) (fun x hx => hwr x (List.mem_reverse.1 hx)))
  have EYx := Lib.hid (hwo.vl.els.2.2.2.keep (S' := fun b => b < w3.heap.size) (fun _ _ _ => rfl) (fun b hb => hb.2))
  have HBw3 := Lib.hid (bthen HBw2.out hbw3 HBw2.out.size)
  have zw2w3 : w2.heap.size ≤ w3.heap.size := hbw3.size
  have HGw3 := Lib.hid (HGw2.out.below hbw3 HGw2.out.lt)
  have Eraww3 := Lib.hid (Eraww2.out.below hbw3)
  have Ewordw3 := Lib.hid (Ewordw2.out.below hbw3)
  have Echw3 := Lib.hid (Echw2.out.below hbw3)
  have Etabw3 := Lib.hid (Etabw2.out.below hbw3 Etabw2.out.1)
  have EAw3 := Lib.hid (EAw2.out.below hbw3)
  clear HGw2 Eraww2 Ewordw2 Echw2 Etabw2 EAw2
  clear hbw3 hwl hwr hwo hw1 hw2
  have EYw3 := EYx
  clear EYx
  have cG0w3 : w3.cell? ⟨w1.heap.size, 0, none⟩ = some (.int .i64 (gm : Int)) := HGw3.out.cell 0
  have cG1w3 : w3.cell? ⟨w1.heap.size, 1, none⟩ = some (.int .i64 (gn : Int)) := HGw3.out.cell 1
  have cG2w3 : w3.cell? ⟨w1.heap.size, 2, none⟩ = some (.int .i64 (gs : Int)) := HGw3.out.cell 2
  have cG3w3 : w3.cell? ⟨w1.heap.size, 3, none⟩ = some (.slice A rs.length c) := HGw3.out.cell 3
  have czGw3 : w1.heap.size < w3.heap.size := HGw3.out.lt
  go_wp2_with fail
  clear cG0w3 cG1w3 cG2w3 cG3w3 czGw3
  refine (reverse2_any ⟨(gm : Int), (gn : Int), (gs : Int), rs⟩ A c (fun b => b < w1.heap.size) w3 C.out Q.out.1 Q.out.2 EAw3.out (fun b hb => by have h0 : b < w1.heap.size := hb; omega)).mono ?_
  rintro e w4 ⟨AR, cR, rr, hrr, rfl, hq1, hq2, hE, hbw4⟩
  dsimp only at hrr
  have QR := Lib.hid (And.intro hq1 hq2)
  have HRr := Lib.hid hrr
  have ERx := Lib.hid (hE.keep (S' := fun b => b < w4.heap.size) (fun _ _ _ => rfl) (fun b hb => hb.2))
  have HBw4 := Lib.hid (bthen HBw3.out hbw4 HBw3.out.size)
  have zw3w4 : w3.heap.size ≤ w4.heap.size := hbw4.size
  have HGw4 := Lib.hid (HGw3.out.below hbw4 HGw3.out.lt)
  have Eraww4 := Lib.hid (Eraww3.out.below hbw4)
  have Ewordw4 := Lib.hid (Ewordw3.out.below hbw4)
  have Echw4 := Lib.hid (Echw3.out.below hbw4)
  have Etabw4 := Lib.hid (Etabw3.out.below hbw4 Etabw3.out.1)
  have EAw4 := Lib.hid (EAw3.out.below hbw4)
  have EYw4 := Lib.hid (EYw3.out.below hbw4)
  clear HGw3 Eraww3 Ewordw3 Echw3 Etabw3 EAw3 EYw3
  clear hbw4 hq1 hq2 hE hrr
  have ERw4 := ERx
  clear ERx
  skip
  have HRG : Hid (revG ⟨(gm : Int), (gn : Int), (gs : Int), rs⟩ = ⟨(gm : Int), (gn : Int), (gs : Int), rr⟩) := Lib.hid (by rw [HRr.out]; rfl)
  have CR : Hid (checkI ⟨(gm : Int), (gn : Int), (gs : Int), rr⟩ = 0) := Lib.hid (by rw [← HRG.out]; exact rev_check HMade.out)
  obtain ⟨w5, hww5⟩ : ∃ wq : World, wq = w4.alloc (.cells #[.int .i64 (gm : Int), .int .i64 (gn : Int), .int .i64 (gs : Int), .slice AR rr.length cR] 25) := ⟨_, rfl⟩
  have HWw5 := Lib.hid hww5
  have hbw5 : Below w4.heap.size w4 w5 := by rw [hww5]; exact (Below.refl _ _).alloc (Nat.le_refl _) _
  have HRw5 : Hid (Blk' w5 w4.heap.size 25 #[.int .i64 (gm : Int), .int .i64 (gn : Int), .int .i64 (gs : Int), .slice AR rr.length cR]) := Lib.hid (by rw [hww5]; exact Blk'.new _ _ _)
  have Zw5 : Hid (w5.heap.size = w4.heap.size + 1) := Lib.hid (by rw [hww5]; simp)
  have HBw5 := Lib.hid (bthen HBw4.out hbw5 HBw4.out.size)
  have zw4w5 : w4.heap.size ≤ w5.heap.size := hbw5.size
  have HGw5 := Lib.hid (HGw4.out.below hbw5 HGw4.out.lt)
  have Eraww5 := Lib.hid (Eraww4.out.below hbw5)
  have Ewordw5 := Lib.hid (Ewordw4.out.below hbw5)
  have Echw5 := Lib.hid (Echw4.out.below hbw5)
  have Etabw5 := Lib.hid (Etabw4.out.below hbw5 Etabw4.out.1)
  have EAw5 := Lib.hid (EAw4.out.below hbw5)
  have EYw5 := Lib.hid (EYw4.out.below hbw5)
  have ERw5 := Lib.hid (ERw4.out.below hbw5)
  clear HGw4 Eraww4 Ewordw4 Echw4 Etabw4 EAw4 EYw4 ERw4
  clear hww5 hbw5
  go_upto_region 4 with (fail)
  rw [← HWw5.out]
  have cG0w5 : w5.cell? ⟨w1.heap.size, 0, none⟩ = some (.int .i64 (gm : Int)) := HGw5.out.cell 0
  have cG1w5 : w5.cell? ⟨w1.heap.size, 1, none⟩ = some (.int .i64 (gn : Int)) := HGw5.out.cell 1
  have cG2w5 : w5.cell? ⟨w1.heap.size, 2, none⟩ = some (.int .i64 (gs : Int)) := HGw5.out.cell 2
  have cG3w5 : w5.cell? ⟨w1.heap.size, 3, none⟩ = some (.slice A rs.length c) := HGw5.out.cell 3
  have czGw5 : w1.heap.size < w5.heap.size := HGw5.out.lt
  go_wp2_with fail
  clear cG0w5 cG1w5 cG2w5 cG3w5 czGw5
  refine (meanCount_any ⟨(gm : Int), (gn : Int), (gs : Int), rs⟩ ws A WA c wc (fun b => b < w1.heap.size) (fun b => b < w3.heap.size) w5 C.out Q.out.1 Q.out.2 EAw5.out (fun b hb => by have h0 : b < w1.heap.size := hb; omega) EYw5.out (fun b hb => by have h0 : b < w3.heap.size := hb; omega) HWr.out Etabw5.out).mono ?_
  rintro e w6 ⟨a, rfl, ha, _, hbw6⟩
  have HCa := Lib.hid ha
  have HBw6 := Lib.hid (bthen HBw5.out hbw6 HBw5.out.size)
  have zw5w6 : w5.heap.size ≤ w6.heap.size := hbw6.size
  have HGw6 := Lib.hid (HGw5.out.below hbw6 HGw5.out.lt)
  have HRw6 := Lib.hid (HRw5.out.below hbw6 HRw5.out.lt)
  have Eraww6 := Lib.hid (Eraww5.out.below hbw6)
  have Ewordw6 := Lib.hid (Ewordw5.out.below hbw6)
  have Echw6 := Lib.hid (Echw5.out.below hbw6)
  have Etabw6 := Lib.hid (Etabw5.out.below hbw6 Etabw5.out.1)
  have EAw6 := Lib.hid (EAw5.out.below hbw6)
  have EYw6 := Lib.hid (EYw5.out.below hbw6)
  have ERw6 := Lib.hid (ERw5.out.below hbw6)
  clear HGw5 HRw5 Eraww5 Ewordw5 Echw5 Etabw5 EAw5 EYw5 ERw5
  clear hbw6 ha
  go_upto_region 5 with (fail)
  have cR0w6 : w6.cell? ⟨w4.heap.size, 0, none⟩ = some (.int .i64 (gm : Int)) := HRw6.out.cell 0
  have cR1w6 : w6.cell? ⟨w4.heap.size, 1, none⟩ = some (.int .i64 (gn : Int)) := HRw6.out.cell 1
  have cR2w6 : w6.cell? ⟨w4.heap.size, 2, none⟩ = some (.int .i64 (gs : Int)) := HRw6.out.cell 2
  have cR3w6 : w6.cell? ⟨w4.heap.size, 3, none⟩ = some (.slice AR rr.length cR) := HRw6.out.cell 3
  have czRw6 : w4.heap.size < w6.heap.size := HRw6.out.lt
  refine wp_region_noPanic ?_
  refine wp_region_held_drew (S := (fun w' => w'.cell? ⟨w4.heap.size, 0, none⟩ = some (.int .i64 (gm : Int)) ∧ w'.cell? ⟨w4.heap.size, 1, none⟩ = some (.int .i64 (gn : Int)) ∧ w'.cell? ⟨w4.heap.size, 2, none⟩ = some (.int .i64 (gs : Int)) ∧ w'.cell? ⟨w4.heap.size, 3, none⟩ = some (.slice AR rr.length cR))) (by kernel_rfl) ?ha (fun hHeld => ?ba)
  case ha => ((try dsimp only); go_keep)
  have hbw6d : Below w6.heap.size w6 w6.drew := (Below.refl _ _).drew
  have HBw6d := Lib.hid (bthen HBw6.out hbw6d HBw6.out.size)
  have zw6w6d : w6.heap.size ≤ w6.drew.heap.size := hbw6d.size
  have HGw6d := Lib.hid (HGw6.out.below hbw6d HGw6.out.lt)
  have HRw6d := Lib.hid (HRw6.out.below hbw6d HRw6.out.lt)
  have Eraww6d := Lib.hid (Eraww6.out.below hbw6d)
  have Ewordw6d := Lib.hid (Ewordw6.out.below hbw6d)
  have Echw6d := Lib.hid (Echw6.out.below hbw6d)
  have Etabw6d := Lib.hid (Etabw6.out.below hbw6d Etabw6.out.1)
  have EAw6d := Lib.hid (EAw6.out.below hbw6d)
  have EYw6d := Lib.hid (EYw6.out.below hbw6d)
  have ERw6d := Lib.hid (ERw6.out.below hbw6d)
  clear HGw6 HRw6 Eraww6 Ewordw6 Echw6 Etabw6 EAw6 EYw6 ERw6
  clear hbw6d
  clear cR0w6 cR1w6 cR2w6 cR3w6 czRw6
  have cR0w6d : w6.drew.cell? ⟨w4.heap.size, 0, none⟩ = some (.int .i64 (gm : Int)) := HRw6d.out.cell 0
  have cR1w6d : w6.drew.cell? ⟨w4.heap.size, 1, none⟩ = some (.int .i64 (gn : Int)) := HRw6d.out.cell 1
  have cR2w6d : w6.drew.cell? ⟨w4.heap.size, 2, none⟩ = some (.int .i64 (gs : Int)) := HRw6d.out.cell 2
  have cR3w6d : w6.drew.cell? ⟨w4.heap.size, 3, none⟩ = some (.slice AR rr.length cR) := HRw6d.out.cell 3
  have czRw6d : w4.heap.size < w6.drew.heap.size := HRw6d.out.lt
  refine take_run (i := 0) (v := ?va0) rfl (by kernel_rfl) (by kernel_rfl) (by kernel_rfl) (fun _ _ _ h => h) (by rfl) ?ya0 (by assumption) ?ra0
  case ya0 => (intro w hSw; (try dsimp only at hSw); go_simp; try with_reducible rfl)
  try simp only [Act.put, List.setIfInBounds_toArray, List.set_cons_zero, List.set_cons_succ]
  refine take_run (i := 1) (v := ?va1) rfl (by kernel_rfl) (by kernel_rfl) (by kernel_rfl) (fun _ _ _ h => h) (by rfl) ?ya1 (by assumption) ?ra1
  case ya1 => (intro w hSw; (try dsimp only at hSw); go_simp; try with_reducible rfl)
  try simp only [Act.put, List.setIfInBounds_toArray, List.set_cons_zero, List.set_cons_succ]
  refine take_call (i := 2) rfl (by kernel_rfl) (by rfl) (fun Kq hK => ?_)
  go_simp
  go_at_call 21
  refine (reversed2_any ws WA wc (fun b => b < w3.heap.size) w6.drew (by have := HW.out; omega) HW.out.2.1 EYw6d.out).mono ?_
  rintro e w7 ⟨VA, vc, rl, hrl, rfl, hvE, hbw7⟩
  have HRl := Lib.hid hrl
  have EVx := Lib.hid (hvE.keep (S' := fun b => b < w7.heap.size) (fun _ _ _ => rfl) (fun b hb => hb.2))
  have HBw7 := Lib.hid (bthen HBw6d.out hbw7 HBw6d.out.size)
  have zw6dw7 : w6.drew.heap.size ≤ w7.heap.size := hbw7.size
  have HGw7 := Lib.hid (HGw6d.out.below hbw7 HGw6d.out.lt)
  have HRw7 := Lib.hid (HRw6d.out.below hbw7 HRw6d.out.lt)
  have Eraww7 := Lib.hid (Eraww6d.out.below hbw7)
  have Ewordw7 := Lib.hid (Ewordw6d.out.below hbw7)
  have Echw7 := Lib.hid (Echw6d.out.below hbw7)
  have Etabw7 := Lib.hid (Etabw6d.out.below hbw7 Etabw6d.out.1)
  have EAw7 := Lib.hid (EAw6d.out.below hbw7)
  have EYw7 := Lib.hid (EYw6d.out.below hbw7)
  have ERw7 := Lib.hid (ERw6d.out.below hbw7)
  clear HGw6d HRw6d Eraww6d Ewordw6d Echw6d Etabw6d EAw6d EYw6d ERw6d
  clear hbw7 hvE hrl cR0w6d cR1w6d cR2w6d cR3w6d czRw6d
  have EVw7 := EVx
  clear EVx
  have cR0w7 : w7.cell? ⟨w4.heap.size, 0, none⟩ = some (.int .i64 (gm : Int)) := HRw7.out.cell 0
  have cR1w7 : w7.cell? ⟨w4.heap.size, 1, none⟩ = some (.int .i64 (gn : Int)) := HRw7.out.cell 1
  have cR2w7 : w7.cell? ⟨w4.heap.size, 2, none⟩ = some (.int .i64 (gs : Int)) := HRw7.out.cell 2
  have cR3w7 : w7.cell? ⟨w4.heap.size, 3, none⟩ = some (.slice AR rr.length cR) := HRw7.out.cell 3
  have czRw7 : w4.heap.size < w7.heap.size := HRw7.out.lt
  refine hK.out _ _ ?ha2 (fun hHeld => ?ra2)
  case ha2 => ((try dsimp only); go_keep)
  clear hK Kq
  try simp only [Act.put, List.setIfInBounds_toArray, List.set_cons_zero, List.set_cons_succ]
  refine take_call (i := 3) rfl (by kernel_rfl) (by rfl) (fun Kq hK => ?_)
  go_simp
  go_at_call 13
  refine (meanCount_any ⟨(gm : Int), (gn : Int), (gs : Int), rr⟩ rl AR VA cR vc (fun b => b < w4.heap.size) (fun b => b < w7.heap.size) w7 CR.out QR.out.1 QR.out.2 ERw7.out (fun b hb => by have h0 : b < w4.heap.size := hb; omega) EVw7.out (fun b hb => by have h0 : b < w7.heap.size := hb; omega) (by rw [HRl.out]; exact HWv.out) Etabw7.out).mono ?_
  rintro e w8 ⟨b, rfl, hb_, _, hbw8⟩
  have hab : a = b := rev_count HCa.out (by rw [HRG.out, ← HRl.out]; exact hb_)
  subst hab
  have HBw8 := Lib.hid (bthen HBw7.out hbw8 HBw7.out.size)
  have zw7w8 : w7.heap.size ≤ w8.heap.size := hbw8.size
  have HGw8 := Lib.hid (HGw7.out.below hbw8 HGw7.out.lt)
  have HRw8 := Lib.hid (HRw7.out.below hbw8 HRw7.out.lt)
  have Eraww8 := Lib.hid (Eraww7.out.below hbw8)
  have Ewordw8 := Lib.hid (Ewordw7.out.below hbw8)
  have Echw8 := Lib.hid (Echw7.out.below hbw8)
  have Etabw8 := Lib.hid (Etabw7.out.below hbw8 Etabw7.out.1)
  have EAw8 := Lib.hid (EAw7.out.below hbw8)
  have EYw8 := Lib.hid (EYw7.out.below hbw8)
  have ERw8 := Lib.hid (ERw7.out.below hbw8)
  have EVw8 := Lib.hid (EVw7.out.below hbw8)
  clear HGw7 HRw7 Eraww7 Ewordw7 Echw7 Etabw7 EAw7 EYw7 ERw7 EVw7
  clear hbw8 hb_ cR0w7 cR1w7 cR2w7 cR3w7 czRw7
  have cR0w8 : w8.cell? ⟨w4.heap.size, 0, none⟩ = some (.int .i64 (gm : Int)) := HRw8.out.cell 0
  have cR1w8 : w8.cell? ⟨w4.heap.size, 1, none⟩ = some (.int .i64 (gn : Int)) := HRw8.out.cell 1
  have cR2w8 : w8.cell? ⟨w4.heap.size, 2, none⟩ = some (.int .i64 (gs : Int)) := HRw8.out.cell 2
  have cR3w8 : w8.cell? ⟨w4.heap.size, 3, none⟩ = some (.slice AR rr.length cR) := HRw8.out.cell 3
  have czRw8 : w4.heap.size < w8.heap.size := HRw8.out.lt
  refine hK.out _ _ ?ha3 (fun hHeld => ?ra3)
  case ha3 => ((try dsimp only); go_keep)
  clear hK Kq
  try simp only [Act.put, List.setIfInBounds_toArray, List.set_cons_zero, List.set_cons_succ]
  refine take_run (i := 4) (v := ?va4) rfl (by kernel_rfl) (by kernel_rfl) (by kernel_rfl) (fun _ _ _ h => h) (by rfl) ?ya4 (by assumption) ?ra4
  case ya4 => (intro w hSw; (try dsimp only at hSw); go_simp; try with_reducible rfl)
  try simp only [Act.put, List.setIfInBounds_toArray, List.set_cons_zero, List.set_cons_succ]
  refine take_run (i := 5) (v := ?va5) rfl (by kernel_rfl) (by kernel_rfl) (by kernel_rfl) (fun _ _ _ h => h) (by rfl) ?ya5 (by assumption) ?ra5
  case ya5 => (intro w hSw; (try dsimp only at hSw); go_simp; try with_reducible rfl)
  try simp only [Act.put, List.setIfInBounds_toArray, List.set_cons_zero, List.set_cons_succ]
  refine take_run (i := 6) (v := ?va6) rfl (by kernel_rfl) (by kernel_rfl) (by kernel_rfl) (fun _ _ _ h => h) (by rfl) ?ya6 (by assumption) ?ra6
  case ya6 => (intro w hSw; (try dsimp only at hSw); go_simp; try with_reducible rfl)
  try simp only [Act.put, List.setIfInBounds_toArray, List.set_cons_zero, List.set_cons_succ]
  refine take_run (i := 7) (v := ?va7) rfl (by kernel_rfl) (by kernel_rfl) (by kernel_rfl) (fun _ _ _ h => h) (by rfl) ?ya7 (by assumption) ?ra7
  case ya7 => (intro w hSw; (try dsimp only at hSw); go_simp; try with_reducible rfl)
  try simp only [Act.put, List.setIfInBounds_toArray, List.set_cons_zero, List.set_cons_succ]
  refine take_run (i := 8) (v := ?va8) rfl (by kernel_rfl) (by kernel_rfl) (by kernel_rfl) (fun _ _ _ h => h) (by rfl) ?ya8 (by assumption) ?ra8
  case ya8 => (intro w hSw; (try dsimp only at hSw); go_simp; try with_reducible rfl)
  try simp only [Act.put, List.setIfInBounds_toArray, List.set_cons_zero, List.set_cons_succ]
  refine wpAnyH_done (by kernel_rfl) ?_ _
  refine NoPanic.normal ?_
  go_wp2_with fail
  clear cR0w8 cR1w8 cR2w8 cR3w8 czRw8
  refine (closes_any _).mono ?_
  rintro e w9 ⟨rfl, hbw9⟩
  have HBw9 := Lib.hid (bthen HBw8.out hbw9 HBw8.out.size)
  have zw8w9 : w8.heap.size ≤ w9.heap.size := hbw9.size
  have HGw9 := Lib.hid (HGw8.out.below hbw9 HGw8.out.lt)
  have HRw9 := Lib.hid (HRw8.out.below hbw9 HRw8.out.lt)
  have Eraww9 := Lib.hid (Eraww8.out.below hbw9)
  have Ewordw9 := Lib.hid (Ewordw8.out.below hbw9)
  have Echw9 := Lib.hid (Echw8.out.below hbw9)
  have Etabw9 := Lib.hid (Etabw8.out.below hbw9 Etabw8.out.1)
  have EAw9 := Lib.hid (EAw8.out.below hbw9)
  have EYw9 := Lib.hid (EYw8.out.below hbw9)
  have ERw9 := Lib.hid (ERw8.out.below hbw9)
  have EVw9 := Lib.hid (EVw8.out.below hbw9)
  clear HGw8 HRw8 Eraww8 Ewordw8 Echw8 Etabw8 EAw8 EYw8 ERw8 EVw8
  clear hbw9
  have cG0w9 : w9.cell? ⟨w1.heap.size, 0, none⟩ = some (.int .i64 (gm : Int)) := HGw9.out.cell 0
  have cG1w9 : w9.cell? ⟨w1.heap.size, 1, none⟩ = some (.int .i64 (gn : Int)) := HGw9.out.cell 1
  have cG2w9 : w9.cell? ⟨w1.heap.size, 2, none⟩ = some (.int .i64 (gs : Int)) := HGw9.out.cell 2
  have cG3w9 : w9.cell? ⟨w1.heap.size, 3, none⟩ = some (.slice A rs.length c) := HGw9.out.cell 3
  have czGw9 : w1.heap.size < w9.heap.size := HGw9.out.lt
  go_wp2_with fail
  clear cG0w9 cG1w9 cG2w9 cG3w9 czGw9
  refine (makeTreeZ_any ⟨(gm : Int), (gn : Int), (gs : Int), rs⟩ A c ch Ach cch (fun b => b < w1.heap.size) S0 w9 V.out.i64 Q.out.1 Q.out.2 (by have := V.out.len; (try dsimp only at this ⊢); omega) (fun q hq => by have := (V.out.rules q hq).2.2.1; omega) EAw9.out (fun b hb => by have h0 : b < w1.heap.size := hb; omega) Dch.out.1 Dch.out.2 Echw9.out (fun b hb => Nat.lt_of_lt_of_le (HS0.out b hb) HBw9.out.size)).mono ?_
  rintro e w10 ⟨v, ok, rfl, hbw10, ⟨ta, tb, TA, tn, tc, rfl⟩, hok, hno⟩
  have HBw10 := Lib.hid (bthen HBw9.out hbw10 HBw9.out.size)
  have zw9w10 : w9.heap.size ≤ w10.heap.size := hbw10.size
  have HGw10 := Lib.hid (HGw9.out.below hbw10 HGw9.out.lt)
  have HRw10 := Lib.hid (HRw9.out.below hbw10 HRw9.out.lt)
  have Eraww10 := Lib.hid (Eraww9.out.below hbw10)
  have Ewordw10 := Lib.hid (Ewordw9.out.below hbw10)
  have Echw10 := Lib.hid (Echw9.out.below hbw10)
  have Etabw10 := Lib.hid (Etabw9.out.below hbw10 Etabw9.out.1)
  have EAw10 := Lib.hid (EAw9.out.below hbw10)
  have EYw10 := Lib.hid (EYw9.out.below hbw10)
  have ERw10 := Lib.hid (ERw9.out.below hbw10)
  have EVw10 := Lib.hid (EVw9.out.below hbw10)
  clear HGw9 HRw9 Eraww9 Ewordw9 Echw9 Etabw9 EAw9 EYw9 ERw9 EVw9
  clear hbw10
  cases ok
  · have e := hno rfl
    clear hok hno
    injection e with e
    simp at e
    obtain ⟨rfl, rfl, rfl, rfl, rfl⟩ := e
    obtain ⟨w11, hww11⟩ : ∃ wq : World, wq = w10.alloc (.cells #[.int .i64 0, .int .i64 0, .slice none 0 0] 39) := ⟨_, rfl⟩
    have HWw11 := Lib.hid hww11
    have hbw11 : Below w10.heap.size w10 w11 := by rw [hww11]; exact (Below.refl _ _).alloc (Nat.le_refl _) _
    have HTw11 : Hid (Blk' w11 w10.heap.size 39 #[.int .i64 0, .int .i64 0, .slice none 0 0]) := Lib.hid (by rw [hww11]; exact Blk'.new _ _ _)
    have Zw11 : Hid (w11.heap.size = w10.heap.size + 1) := Lib.hid (by rw [hww11]; simp)
    have HBw11 := Lib.hid (bthen HBw10.out hbw11 HBw10.out.size)
    have zw10w11 : w10.heap.size ≤ w11.heap.size := hbw11.size
    have HGw11 := Lib.hid (HGw10.out.below hbw11 HGw10.out.lt)
    have HRw11 := Lib.hid (HRw10.out.below hbw11 HRw10.out.lt)
    have Eraww11 := Lib.hid (Eraww10.out.below hbw11)
    have Ewordw11 := Lib.hid (Ewordw10.out.below hbw11)
    have Echw11 := Lib.hid (Echw10.out.below hbw11)
    have Etabw11 := Lib.hid (Etabw10.out.below hbw11 Etabw10.out.1)
    have EAw11 := Lib.hid (EAw10.out.below hbw11)
    have EYw11 := Lib.hid (EYw10.out.below hbw11)
    have ERw11 := Lib.hid (ERw10.out.below hbw11)
    have EVw11 := Lib.hid (EVw10.out.below hbw11)
    clear HGw10 HRw10 Eraww10 Ewordw10 Echw10 Etabw10 EAw10 EYw10 ERw10 EVw10
    clear hww11 hbw11
    go_upto_region 9 with (fail)
    rw [← HWw11.out]
    have cT0w11 : w11.cell? ⟨w10.heap.size, 0, none⟩ = some (.int .i64 0) := HTw11.out.cell 0
    have cT1w11 : w11.cell? ⟨w10.heap.size, 1, none⟩ = some (.int .i64 0) := HTw11.out.cell 1
    have cT2w11 : w11.cell? ⟨w10.heap.size, 2, none⟩ = some (.slice none 0 0) := HTw11.out.cell 2
    have czTw11 : w10.heap.size < w11.heap.size := HTw11.out.lt
    go_wp2_with fail
    clear cT0w11 cT1w11 cT2w11 czTw11
    refine (mirror_any ⟨0, 0, []⟩ (fun _ => False) none 0 w11 ⟨by decide, by decide⟩ ⟨by decide, by decide⟩ (by simp [nodesT, nodesL]) (Nat.le_refl _) (by omega) (fun b h => h.elim) (fun h => absurd rfl h)).mono ?_
    rintro e w12 ⟨XA, xc, rfl, _, _, _, _, _, hbw12⟩
    have HBw12 := Lib.hid (bthen HBw11.out hbw12 HBw11.out.size)
    have zw11w12 : w11.heap.size ≤ w12.heap.size := hbw12.size
    have HGw12 := Lib.hid (HGw11.out.below hbw12 HGw11.out.lt)
    have HRw12 := Lib.hid (HRw11.out.below hbw12 HRw11.out.lt)
    have HTw12 := Lib.hid (HTw11.out.below hbw12 HTw11.out.lt)
    have Eraww12 := Lib.hid (Eraww11.out.below hbw12)
    have Ewordw12 := Lib.hid (Ewordw11.out.below hbw12)
    have Echw12 := Lib.hid (Echw11.out.below hbw12)
    have Etabw12 := Lib.hid (Etabw11.out.below hbw12 Etabw11.out.1)
    have EAw12 := Lib.hid (EAw11.out.below hbw12)
    have EYw12 := Lib.hid (EYw11.out.below hbw12)
    have ERw12 := Lib.hid (ERw11.out.below hbw12)
    have EVw12 := Lib.hid (EVw11.out.below hbw12)
    clear HGw11 HRw11 HTw11 Eraww11 Ewordw11 Echw11 Etabw11 EAw11 EYw11 ERw11 EVw11
    clear hbw12
    obtain ⟨w13, hww13⟩ : ∃ wq : World, wq = w12.alloc (.cells #[.int .i64 (mirT ⟨0, 0, []⟩).rule, .int .i64 (mirT ⟨0, 0, []⟩).term, .slice XA (mirT ⟨0, 0, []⟩).kids.length xc] 39) := ⟨_, rfl⟩
    have HWw13 := Lib.hid hww13
    have hbw13 : Below w12.heap.size w12 w13 := by rw [hww13]; exact (Below.refl _ _).alloc (Nat.le_refl _) _
    have HXw13 : Hid (Blk' w13 w12.heap.size 39 #[.int .i64 (mirT ⟨0, 0, []⟩).rule, .int .i64 (mirT ⟨0, 0, []⟩).term, .slice XA (mirT ⟨0, 0, []⟩).kids.length xc]) := Lib.hid (by rw [hww13]; exact Blk'.new _ _ _)
    have Zw13 : Hid (w13.heap.size = w12.heap.size + 1) := Lib.hid (by rw [hww13]; simp)
    have HBw13 := Lib.hid (bthen HBw12.out hbw13 HBw12.out.size)
    have zw12w13 : w12.heap.size ≤ w13.heap.size := hbw13.size
    have HGw13 := Lib.hid (HGw12.out.below hbw13 HGw12.out.lt)
    have HRw13 := Lib.hid (HRw12.out.below hbw13 HRw12.out.lt)
    have HTw13 := Lib.hid (HTw12.out.below hbw13 HTw12.out.lt)
    have Eraww13 := Lib.hid (Eraww12.out.below hbw13)
    have Ewordw13 := Lib.hid (Ewordw12.out.below hbw13)
    have Echw13 := Lib.hid (Echw12.out.below hbw13)
    have Etabw13 := Lib.hid (Etabw12.out.below hbw13 Etabw12.out.1)
    have EAw13 := Lib.hid (EAw12.out.below hbw13)
    have EYw13 := Lib.hid (EYw12.out.below hbw13)
    have ERw13 := Lib.hid (ERw12.out.below hbw13)
    have EVw13 := Lib.hid (EVw12.out.below hbw13)
    clear HGw12 HRw12 HTw12 Eraww12 Ewordw12 Echw12 Etabw12 EAw12 EYw12 ERw12 EVw12
    clear hww13 hbw13
    go_upto_region 10 with (fail)
    rw [← HWw13.out]
    refine wp_region_noPanic ?_
    refine wp_region_held_drew (S := (fun w' => True)) (by kernel_rfl) ?hn (fun hHeld => ?bn)
    case hn => trivial
    refine take_run (i := 0) (v := ?vn0) rfl (by kernel_rfl) (by kernel_rfl) (by kernel_rfl) (fun _ _ _ h => h) (by rfl) ?yn0 (by assumption) ?rn0
    case yn0 => (intro w hSw; (try dsimp only at hSw); go_simp; try with_reducible rfl)
    try simp only [Act.put, List.setIfInBounds_toArray, List.set_cons_zero, List.set_cons_succ]
    refine take_run (i := 1) (v := ?vn1) rfl (by kernel_rfl) (by kernel_rfl) (by kernel_rfl) (fun _ _ _ h => h) (by rfl) ?yn1 (by assumption) ?rn1
    case yn1 => (intro w hSw; (try dsimp only at hSw); go_simp; try with_reducible rfl)
    try simp only [Act.put, List.setIfInBounds_toArray, List.set_cons_zero, List.set_cons_succ]
    refine take_run (i := 2) (v := ?vn2) rfl (by kernel_rfl) (by kernel_rfl) (by kernel_rfl) (fun _ _ _ h => h) (by rfl) ?yn2 (by assumption) ?rn2
    case yn2 => (intro w hSw; (try dsimp only at hSw); go_simp; try with_reducible rfl)
    try simp only [Act.put, List.setIfInBounds_toArray, List.set_cons_zero, List.set_cons_succ]
    refine take_bar (i := 3) rfl (by kernel_rfl) (by kernel_rfl) (by kernel_rfl) (fun _ _ _ h => h) (by rfl) (by assumption) ?_
    try simp only [Act.put, List.setIfInBounds_toArray, List.set_cons_zero, List.set_cons_succ]
    refine take_bar (i := 4) rfl (by kernel_rfl) (by kernel_rfl) (by kernel_rfl) (fun _ _ _ h => h) (by rfl) (by assumption) ?_
    try simp only [Act.put, List.setIfInBounds_toArray, List.set_cons_zero, List.set_cons_succ]
    refine take_bar (i := 5) rfl (by kernel_rfl) (by kernel_rfl) (by kernel_rfl) (fun _ _ _ h => h) (by rfl) (by assumption) ?_
    try simp only [Act.put, List.setIfInBounds_toArray, List.set_cons_zero, List.set_cons_succ]
    refine take_bar (i := 6) rfl (by kernel_rfl) (by kernel_rfl) (by kernel_rfl) (fun _ _ _ h => h) (by rfl) (by assumption) ?_
    try simp only [Act.put, List.setIfInBounds_toArray, List.set_cons_zero, List.set_cons_succ]
    refine take_bar (i := 7) rfl (by kernel_rfl) (by kernel_rfl) (by kernel_rfl) (fun _ _ _ h => h) (by rfl) (by assumption) ?_
    try simp only [Act.put, List.setIfInBounds_toArray, List.set_cons_zero, List.set_cons_succ]
    refine take_bar (i := 8) rfl (by kernel_rfl) (by kernel_rfl) (by kernel_rfl) (fun _ _ _ h => h) (by rfl) (by assumption) ?_
    try simp only [Act.put, List.setIfInBounds_toArray, List.set_cons_zero, List.set_cons_succ]
    refine take_bar (i := 9) rfl (by kernel_rfl) (by kernel_rfl) (by kernel_rfl) (fun _ _ _ h => h) (by rfl) (by assumption) ?_
    try simp only [Act.put, List.setIfInBounds_toArray, List.set_cons_zero, List.set_cons_succ]
    refine take_bar (i := 10) rfl (by kernel_rfl) (by kernel_rfl) (by kernel_rfl) (fun _ _ _ h => h) (by rfl) (by assumption) ?_
    try simp only [Act.put, List.setIfInBounds_toArray, List.set_cons_zero, List.set_cons_succ]
    refine take_bar (i := 11) rfl (by kernel_rfl) (by kernel_rfl) (by kernel_rfl) (fun _ _ _ h => h) (by rfl) (by assumption) ?_
    try simp only [Act.put, List.setIfInBounds_toArray, List.set_cons_zero, List.set_cons_succ]
    refine take_bar (i := 12) rfl (by kernel_rfl) (by kernel_rfl) (by kernel_rfl) (fun _ _ _ h => h) (by rfl) (by assumption) ?_
    try simp only [Act.put, List.setIfInBounds_toArray, List.set_cons_zero, List.set_cons_succ]
    refine take_bar (i := 13) rfl (by kernel_rfl) (by kernel_rfl) (by kernel_rfl) (fun _ _ _ h => h) (by rfl) (by assumption) ?_
    try simp only [Act.put, List.setIfInBounds_toArray, List.set_cons_zero, List.set_cons_succ]
    refine take_bar (i := 14) rfl (by kernel_rfl) (by kernel_rfl) (by kernel_rfl) (fun _ _ _ h => h) (by rfl) (by assumption) ?_
    try simp only [Act.put, List.setIfInBounds_toArray, List.set_cons_zero, List.set_cons_succ]
    refine take_bar (i := 15) rfl (by kernel_rfl) (by kernel_rfl) (by kernel_rfl) (fun _ _ _ h => h) (by rfl) (by assumption) ?_
    try simp only [Act.put, List.setIfInBounds_toArray, List.set_cons_zero, List.set_cons_succ]
    refine take_bar (i := 16) rfl (by kernel_rfl) (by kernel_rfl) (by kernel_rfl) (fun _ _ _ h => h) (by rfl) (by assumption) ?_
    try simp only [Act.put, List.setIfInBounds_toArray, List.set_cons_zero, List.set_cons_succ]
    refine take_bar (i := 17) rfl (by kernel_rfl) (by kernel_rfl) (by kernel_rfl) (fun _ _ _ h => h) (by rfl) (by assumption) ?_
    try simp only [Act.put, List.setIfInBounds_toArray, List.set_cons_zero, List.set_cons_succ]
    refine take_bar (i := 18) rfl (by kernel_rfl) (by kernel_rfl) (by kernel_rfl) (fun _ _ _ h => h) (by rfl) (by assumption) ?_
    try simp only [Act.put, List.setIfInBounds_toArray, List.set_cons_zero, List.set_cons_succ]
    refine take_bar (i := 19) rfl (by kernel_rfl) (by kernel_rfl) (by kernel_rfl) (fun _ _ _ h => h) (by rfl) (by assumption) ?_
    try simp only [Act.put, List.setIfInBounds_toArray, List.set_cons_zero, List.set_cons_succ]
    refine take_bar (i := 20) rfl (by kernel_rfl) (by kernel_rfl) (by kernel_rfl) (fun _ _ _ h => h) (by rfl) (by assumption) ?_
    try simp only [Act.put, List.setIfInBounds_toArray, List.set_cons_zero, List.set_cons_succ]
    refine take_run (i := 21) (v := ?vn21) rfl (by kernel_rfl) (by kernel_rfl) (by kernel_rfl) (fun _ _ _ h => h) (by rfl) ?yn21 (by assumption) ?rn21
    case yn21 => (intro w hSw; (try dsimp only at hSw); go_simp; try with_reducible rfl)
    try simp only [Act.put, List.setIfInBounds_toArray, List.set_cons_zero, List.set_cons_succ]
    refine take_run (i := 22) (v := ?vn22) rfl (by kernel_rfl) (by kernel_rfl) (by kernel_rfl) (fun _ _ _ h => h) (by rfl) ?yn22 (by assumption) ?rn22
    case yn22 => (intro w hSw; (try dsimp only at hSw); go_simp; try with_reducible rfl)
    try simp only [Act.put, List.setIfInBounds_toArray, List.set_cons_zero, List.set_cons_succ]
    refine wpAnyH_done (by kernel_rfl) ?_ _
    refine NoPanic.normal ?_
    go_wp2
    go_ret
    exact ⟨rfl, HBw13.out.drew⟩
  · obtain ⟨tr, hvt, hvl, hy60, hn60⟩ := hok rfl
    clear hno hok
    obtain ⟨ts, he, hra, hta, hts⟩ := hvl.tree
    injection he with he
    simp at he
    obtain ⟨rfl, rfl, rfl⟩ := he
    obtain ⟨rfl, htc1, htc2, htE⟩ := hts.els
    have HT := Lib.hid (And.intro hvt (And.intro hy60 hn60))
    have HI := Lib.hid (And.intro hra (And.intro hta (And.intro htc1 htc2)))
    have ETw10 := Lib.hid (htE.keep (S' := fun b => b < w10.heap.size) (fun _ _ _ => rfl) (fun b hb => hb.2))
    clear hvt hvl hy60 hn60 hts hra hta htc1 htc2 htE
    obtain ⟨w11, hww11⟩ : ∃ wq : World, wq = w10.alloc (.cells #[.int .i64 tr.rule, .int .i64 tr.term, .slice TA tr.kids.length tc] 39) := ⟨_, rfl⟩
    have HWw11 := Lib.hid hww11
    have hbw11 : Below w10.heap.size w10 w11 := by rw [hww11]; exact (Below.refl _ _).alloc (Nat.le_refl _) _
    have HTw11 : Hid (Blk' w11 w10.heap.size 39 #[.int .i64 tr.rule, .int .i64 tr.term, .slice TA tr.kids.length tc]) := Lib.hid (by rw [hww11]; exact Blk'.new _ _ _)
    have Zw11 : Hid (w11.heap.size = w10.heap.size + 1) := Lib.hid (by rw [hww11]; simp)
    have HBw11 := Lib.hid (bthen HBw10.out hbw11 HBw10.out.size)
    have zw10w11 : w10.heap.size ≤ w11.heap.size := hbw11.size
    have HGw11 := Lib.hid (HGw10.out.below hbw11 HGw10.out.lt)
    have HRw11 := Lib.hid (HRw10.out.below hbw11 HRw10.out.lt)
    have Eraww11 := Lib.hid (Eraww10.out.below hbw11)
    have Ewordw11 := Lib.hid (Ewordw10.out.below hbw11)
    have Echw11 := Lib.hid (Echw10.out.below hbw11)
    have Etabw11 := Lib.hid (Etabw10.out.below hbw11 Etabw10.out.1)
    have EAw11 := Lib.hid (EAw10.out.below hbw11)
    have EYw11 := Lib.hid (EYw10.out.below hbw11)
    have ERw11 := Lib.hid (ERw10.out.below hbw11)
    have EVw11 := Lib.hid (EVw10.out.below hbw11)
    have ETw11 := Lib.hid (ETw10.out.below hbw11)
    clear HGw10 HRw10 Eraww10 Ewordw10 Echw10 Etabw10 EAw10 EYw10 ERw10 EVw10 ETw10
    clear hww11 hbw11
    go_upto_region 9 with (fail)
    rw [← HWw11.out]
    have cT0w11 : w11.cell? ⟨w10.heap.size, 0, none⟩ = some (.int .i64 tr.rule) := HTw11.out.cell 0
    have cT1w11 : w11.cell? ⟨w10.heap.size, 1, none⟩ = some (.int .i64 tr.term) := HTw11.out.cell 1
    have cT2w11 : w11.cell? ⟨w10.heap.size, 2, none⟩ = some (.slice TA tr.kids.length tc) := HTw11.out.cell 2
    have czTw11 : w10.heap.size < w11.heap.size := HTw11.out.lt
    obtain ⟨x, hx⟩ : ∃ x, x = mirT tr := ⟨_, rfl⟩
    have HM := Lib.hid (mir_vt tr _ HT.out.1)
    rw [← hx] at HM
    have HXn : Hid (nodesT x ≤ 60) := Lib.hid (by rw [hx, mir_nodes]; exact HT.out.2.2)
    have HXm : Hid (mirT x = tr) := Lib.hid HM.out.2.1
    go_wp2_with fail
    clear cT0w11 cT1w11 cT2w11 czTw11
    have hcm := mirror_any tr (fun b => b < w10.heap.size) TA tc w11 HI.out.1 HI.out.2.1 (by have := HT.out.2.2; omega) HI.out.2.2.1 HI.out.2.2.2 (fun b h => by have h0 : b < w10.heap.size := h; omega) ETw11.out
    rw [← hx] at hcm
    clear hx
    refine (hcm).mono ?_
    rintro e w12 ⟨XA, xc, rfl, hx1, hx2, hx3, hx4, hxE, hbw12⟩
    have HXi := Lib.hid (And.intro hx1 (And.intro hx2 (And.intro hx3 hx4)))
    have EXx := Lib.hid (hxE.keep (S' := fun b => b < w12.heap.size) (fun _ _ _ => rfl) (fun b hb => hb.2))
    have HBw12 := Lib.hid (bthen HBw11.out hbw12 HBw11.out.size)
    have zw11w12 : w11.heap.size ≤ w12.heap.size := hbw12.size
    have HGw12 := Lib.hid (HGw11.out.below hbw12 HGw11.out.lt)
    have HRw12 := Lib.hid (HRw11.out.below hbw12 HRw11.out.lt)
    have HTw12 := Lib.hid (HTw11.out.below hbw12 HTw11.out.lt)
    have Eraww12 := Lib.hid (Eraww11.out.below hbw12)
    have Ewordw12 := Lib.hid (Ewordw11.out.below hbw12)
    have Echw12 := Lib.hid (Echw11.out.below hbw12)
    have Etabw12 := Lib.hid (Etabw11.out.below hbw12 Etabw11.out.1)
    have EAw12 := Lib.hid (EAw11.out.below hbw12)
    have EYw12 := Lib.hid (EYw11.out.below hbw12)
    have ERw12 := Lib.hid (ERw11.out.below hbw12)
    have EVw12 := Lib.hid (EVw11.out.below hbw12)
    have ETw12 := Lib.hid (ETw11.out.below hbw12)
    clear HGw11 HRw11 HTw11 Eraww11 Ewordw11 Echw11 Etabw11 EAw11 EYw11 ERw11 EVw11 ETw11
    clear hbw12 hcm hx1 hx2 hx3 hx4 hxE
    have EXw12 := EXx
    clear EXx
    obtain ⟨w13, hww13⟩ : ∃ wq : World, wq = w12.alloc (.cells #[.int .i64 x.rule, .int .i64 x.term, .slice XA x.kids.length xc] 39) := ⟨_, rfl⟩
    have HWw13 := Lib.hid hww13
    have hbw13 : Below w12.heap.size w12 w13 := by rw [hww13]; exact (Below.refl _ _).alloc (Nat.le_refl _) _
    have HXw13 : Hid (Blk' w13 w12.heap.size 39 #[.int .i64 x.rule, .int .i64 x.term, .slice XA x.kids.length xc]) := Lib.hid (by rw [hww13]; exact Blk'.new _ _ _)
    have Zw13 : Hid (w13.heap.size = w12.heap.size + 1) := Lib.hid (by rw [hww13]; simp)
    have HBw13 := Lib.hid (bthen HBw12.out hbw13 HBw12.out.size)
    have zw12w13 : w12.heap.size ≤ w13.heap.size := hbw13.size
    have HGw13 := Lib.hid (HGw12.out.below hbw13 HGw12.out.lt)
    have HRw13 := Lib.hid (HRw12.out.below hbw13 HRw12.out.lt)
    have HTw13 := Lib.hid (HTw12.out.below hbw13 HTw12.out.lt)
    have Eraww13 := Lib.hid (Eraww12.out.below hbw13)
    have Ewordw13 := Lib.hid (Ewordw12.out.below hbw13)
    have Echw13 := Lib.hid (Echw12.out.below hbw13)
    have Etabw13 := Lib.hid (Etabw12.out.below hbw13 Etabw12.out.1)
    have EAw13 := Lib.hid (EAw12.out.below hbw13)
    have EYw13 := Lib.hid (EYw12.out.below hbw13)
    have ERw13 := Lib.hid (ERw12.out.below hbw13)
    have EVw13 := Lib.hid (EVw12.out.below hbw13)
    have ETw13 := Lib.hid (ETw12.out.below hbw13)
    have EXw13 := Lib.hid (EXw12.out.below hbw13)
    clear HGw12 HRw12 HTw12 Eraww12 Ewordw12 Echw12 Etabw12 EAw12 EYw12 ERw12 EVw12 ETw12 EXw12
    clear hww13 hbw13
    go_upto_region 10 with (fail)
    rw [← HWw13.out]
    have HT0 : Hid (treeE ⟨(gm : Int), (gn : Int), (gs : Int), rr⟩ x = 0) := Lib.hid (treeE_vt (terms_of (validG_of CR.out)) (by have h := HM.out.1; rw [HRG.out] at h; exact h) (by have := HXn.out; omega))
    have cR0w13 : w13.cell? ⟨w4.heap.size, 0, none⟩ = some (.int .i64 (gm : Int)) := HRw13.out.cell 0
    have cR1w13 : w13.cell? ⟨w4.heap.size, 1, none⟩ = some (.int .i64 (gn : Int)) := HRw13.out.cell 1
    have cR2w13 : w13.cell? ⟨w4.heap.size, 2, none⟩ = some (.int .i64 (gs : Int)) := HRw13.out.cell 2
    have cR3w13 : w13.cell? ⟨w4.heap.size, 3, none⟩ = some (.slice AR rr.length cR) := HRw13.out.cell 3
    have czRw13 : w4.heap.size < w13.heap.size := HRw13.out.lt
    have cX0w13 : w13.cell? ⟨w12.heap.size, 0, none⟩ = some (.int .i64 x.rule) := HXw13.out.cell 0
    have cX1w13 : w13.cell? ⟨w12.heap.size, 1, none⟩ = some (.int .i64 x.term) := HXw13.out.cell 1
    have cX2w13 : w13.cell? ⟨w12.heap.size, 2, none⟩ = some (.slice XA x.kids.length xc) := HXw13.out.cell 2
    have czXw13 : w12.heap.size < w13.heap.size := HXw13.out.lt
    have cT0w13 : w13.cell? ⟨w10.heap.size, 0, none⟩ = some (.int .i64 tr.rule) := HTw13.out.cell 0
    have cT1w13 : w13.cell? ⟨w10.heap.size, 1, none⟩ = some (.int .i64 tr.term) := HTw13.out.cell 1
    have cT2w13 : w13.cell? ⟨w10.heap.size, 2, none⟩ = some (.slice TA tr.kids.length tc) := HTw13.out.cell 2
    have czTw13 : w10.heap.size < w13.heap.size := HTw13.out.lt
    refine wp_region_noPanic ?_
    refine wp_region_held_drew (S := (fun w' => w'.cell? ⟨w4.heap.size, 0, none⟩ = some (.int .i64 (gm : Int)) ∧ w'.cell? ⟨w4.heap.size, 1, none⟩ = some (.int .i64 (gn : Int)) ∧ w'.cell? ⟨w4.heap.size, 2, none⟩ = some (.int .i64 (gs : Int)) ∧ w'.cell? ⟨w4.heap.size, 3, none⟩ = some (.slice AR rr.length cR) ∧ w'.cell? ⟨w12.heap.size, 0, none⟩ = some (.int .i64 x.rule) ∧ w'.cell? ⟨w12.heap.size, 1, none⟩ = some (.int .i64 x.term) ∧ w'.cell? ⟨w12.heap.size, 2, none⟩ = some (.slice XA x.kids.length xc) ∧ w'.cell? ⟨w10.heap.size, 0, none⟩ = some (.int .i64 tr.rule) ∧ w'.cell? ⟨w10.heap.size, 1, none⟩ = some (.int .i64 tr.term) ∧ w'.cell? ⟨w10.heap.size, 2, none⟩ = some (.slice TA tr.kids.length tc))) (by kernel_rfl) ?hb (fun hHeld => ?bb)
    case hb => ((try dsimp only); go_keep)
    have hbw13d : Below w13.heap.size w13 w13.drew := (Below.refl _ _).drew
    have HBw13d := Lib.hid (bthen HBw13.out hbw13d HBw13.out.size)
    have zw13w13d : w13.heap.size ≤ w13.drew.heap.size := hbw13d.size
    have HGw13d := Lib.hid (HGw13.out.below hbw13d HGw13.out.lt)
    have HRw13d := Lib.hid (HRw13.out.below hbw13d HRw13.out.lt)
    have HTw13d := Lib.hid (HTw13.out.below hbw13d HTw13.out.lt)
    have HXw13d := Lib.hid (HXw13.out.below hbw13d HXw13.out.lt)
    have Eraww13d := Lib.hid (Eraww13.out.below hbw13d)
    have Ewordw13d := Lib.hid (Ewordw13.out.below hbw13d)
    have Echw13d := Lib.hid (Echw13.out.below hbw13d)
    have Etabw13d := Lib.hid (Etabw13.out.below hbw13d Etabw13.out.1)
    have EAw13d := Lib.hid (EAw13.out.below hbw13d)
    have EYw13d := Lib.hid (EYw13.out.below hbw13d)
    have ERw13d := Lib.hid (ERw13.out.below hbw13d)
    have EVw13d := Lib.hid (EVw13.out.below hbw13d)
    have ETw13d := Lib.hid (ETw13.out.below hbw13d)
    have EXw13d := Lib.hid (EXw13.out.below hbw13d)
    clear HGw13 HRw13 HTw13 HXw13 Eraww13 Ewordw13 Echw13 Etabw13 EAw13 EYw13 ERw13 EVw13 ETw13 EXw13
    clear hbw13d
    clear cR0w13 cR1w13 cR2w13 cR3w13 czRw13 cX0w13 cX1w13 cX2w13 czXw13 cT0w13 cT1w13 cT2w13 czTw13
    have cR0w13d : w13.drew.cell? ⟨w4.heap.size, 0, none⟩ = some (.int .i64 (gm : Int)) := HRw13d.out.cell 0
    have cR1w13d : w13.drew.cell? ⟨w4.heap.size, 1, none⟩ = some (.int .i64 (gn : Int)) := HRw13d.out.cell 1
    have cR2w13d : w13.drew.cell? ⟨w4.heap.size, 2, none⟩ = some (.int .i64 (gs : Int)) := HRw13d.out.cell 2
    have cR3w13d : w13.drew.cell? ⟨w4.heap.size, 3, none⟩ = some (.slice AR rr.length cR) := HRw13d.out.cell 3
    have czRw13d : w4.heap.size < w13.drew.heap.size := HRw13d.out.lt
    have cX0w13d : w13.drew.cell? ⟨w12.heap.size, 0, none⟩ = some (.int .i64 x.rule) := HXw13d.out.cell 0
    have cX1w13d : w13.drew.cell? ⟨w12.heap.size, 1, none⟩ = some (.int .i64 x.term) := HXw13d.out.cell 1
    have cX2w13d : w13.drew.cell? ⟨w12.heap.size, 2, none⟩ = some (.slice XA x.kids.length xc) := HXw13d.out.cell 2
    have czXw13d : w12.heap.size < w13.drew.heap.size := HXw13d.out.lt
    have cT0w13d : w13.drew.cell? ⟨w10.heap.size, 0, none⟩ = some (.int .i64 tr.rule) := HTw13d.out.cell 0
    have cT1w13d : w13.drew.cell? ⟨w10.heap.size, 1, none⟩ = some (.int .i64 tr.term) := HTw13d.out.cell 1
    have cT2w13d : w13.drew.cell? ⟨w10.heap.size, 2, none⟩ = some (.slice TA tr.kids.length tc) := HTw13d.out.cell 2
    have czTw13d : w10.heap.size < w13.drew.heap.size := HTw13d.out.lt
    refine take_run (i := 0) (v := ?vb0) rfl (by kernel_rfl) (by kernel_rfl) (by kernel_rfl) (fun _ _ _ h => h) (by rfl) ?yb0 (by assumption) ?rb0
    case yb0 => (intro w hSw; (try dsimp only at hSw); go_simp; try with_reducible rfl)
    try simp only [Act.put, List.setIfInBounds_toArray, List.set_cons_zero, List.set_cons_succ]
    refine take_run (i := 1) (v := ?vb1) rfl (by kernel_rfl) (by kernel_rfl) (by kernel_rfl) (fun _ _ _ h => h) (by rfl) ?yb1 (by assumption) ?rb1
    case yb1 => (intro w hSw; (try dsimp only at hSw); go_simp; try with_reducible rfl)
    try simp only [Act.put, List.setIfInBounds_toArray, List.set_cons_zero, List.set_cons_succ]
    refine take_run (i := 2) (v := ?vb2) rfl (by kernel_rfl) (by kernel_rfl) (by kernel_rfl) (fun _ _ _ h => h) (by rfl) ?yb2 (by assumption) ?rb2
    case yb2 => (intro w hSw; (try dsimp only at hSw); go_simp; try with_reducible rfl)
    try simp only [Act.put, List.setIfInBounds_toArray, List.set_cons_zero, List.set_cons_succ]
    refine take_run (i := 3) (v := ?vb3) rfl (by kernel_rfl) (by kernel_rfl) (by kernel_rfl) (fun _ _ _ h => h) (by rfl) ?yb3 (by assumption) ?rb3
    case yb3 => (intro w hSw; (try dsimp only at hSw); go_simp; try with_reducible rfl)
    try simp only [Act.put, List.setIfInBounds_toArray, List.set_cons_zero, List.set_cons_succ]
    refine take_run (i := 4) (v := ?vb4) rfl (by kernel_rfl) (by kernel_rfl) (by kernel_rfl) (fun _ _ _ h => h) (by rfl) ?yb4 (by assumption) ?rb4
    case yb4 => (intro w hSw; (try dsimp only at hSw); go_simp; try with_reducible rfl)
    try simp only [Act.put, List.setIfInBounds_toArray, List.set_cons_zero, List.set_cons_succ]
    refine take_call (i := 5) rfl (by kernel_rfl) (by rfl) (fun Kq hK => ?_)
    go_simp
    go_at_call 18
    refine (gtree_any ⟨(gm : Int), (gn : Int), (gs : Int), rr⟩ AR cR (fun b => b < w4.heap.size) (fun b => b < w12.heap.size) x XA xc w13.drew (by have := (validG_of CR.out).len; (try dsimp only at this ⊢); omega) (fun q hq => by have := ((validG_of CR.out).rules q hq).2.2.1; omega) ERw13d.out (fun b hb => by have h0 : b < w4.heap.size := hb; omega) (fun b h => by have h0 : b < w12.heap.size := h; omega) HXi.out.1 HXi.out.2.1 HXi.out.2.2.1 HXi.out.2.2.2 EXw13d.out).mono ?_
    rintro e w14 ⟨rfl, hbw14⟩
    rw [HT0.out]
    have HBw14 := Lib.hid (bthen HBw13d.out hbw14 HBw13d.out.size)
    have zw13dw14 : w13.drew.heap.size ≤ w14.heap.size := hbw14.size
    have HGw14 := Lib.hid (HGw13d.out.below hbw14 HGw13d.out.lt)
    have HRw14 := Lib.hid (HRw13d.out.below hbw14 HRw13d.out.lt)
    have HTw14 := Lib.hid (HTw13d.out.below hbw14 HTw13d.out.lt)
    have HXw14 := Lib.hid (HXw13d.out.below hbw14 HXw13d.out.lt)
    have Eraww14 := Lib.hid (Eraww13d.out.below hbw14)
    have Ewordw14 := Lib.hid (Ewordw13d.out.below hbw14)
    have Echw14 := Lib.hid (Echw13d.out.below hbw14)
    have Etabw14 := Lib.hid (Etabw13d.out.below hbw14 Etabw13d.out.1)
    have EAw14 := Lib.hid (EAw13d.out.below hbw14)
    have EYw14 := Lib.hid (EYw13d.out.below hbw14)
    have ERw14 := Lib.hid (ERw13d.out.below hbw14)
    have EVw14 := Lib.hid (EVw13d.out.below hbw14)
    have ETw14 := Lib.hid (ETw13d.out.below hbw14)
    have EXw14 := Lib.hid (EXw13d.out.below hbw14)
    clear HGw13d HRw13d HTw13d HXw13d Eraww13d Ewordw13d Echw13d Etabw13d EAw13d EYw13d ERw13d EVw13d ETw13d EXw13d
    clear hbw14 cR0w13d cR1w13d cR2w13d cR3w13d czRw13d cX0w13d cX1w13d cX2w13d czXw13d cT0w13d cT1w13d cT2w13d czTw13d
    have cR0w14 : w14.cell? ⟨w4.heap.size, 0, none⟩ = some (.int .i64 (gm : Int)) := HRw14.out.cell 0
    have cR1w14 : w14.cell? ⟨w4.heap.size, 1, none⟩ = some (.int .i64 (gn : Int)) := HRw14.out.cell 1
    have cR2w14 : w14.cell? ⟨w4.heap.size, 2, none⟩ = some (.int .i64 (gs : Int)) := HRw14.out.cell 2
    have cR3w14 : w14.cell? ⟨w4.heap.size, 3, none⟩ = some (.slice AR rr.length cR) := HRw14.out.cell 3
    have czRw14 : w4.heap.size < w14.heap.size := HRw14.out.lt
    have cX0w14 : w14.cell? ⟨w12.heap.size, 0, none⟩ = some (.int .i64 x.rule) := HXw14.out.cell 0
    have cX1w14 : w14.cell? ⟨w12.heap.size, 1, none⟩ = some (.int .i64 x.term) := HXw14.out.cell 1
    have cX2w14 : w14.cell? ⟨w12.heap.size, 2, none⟩ = some (.slice XA x.kids.length xc) := HXw14.out.cell 2
    have czXw14 : w12.heap.size < w14.heap.size := HXw14.out.lt
    have cT0w14 : w14.cell? ⟨w10.heap.size, 0, none⟩ = some (.int .i64 tr.rule) := HTw14.out.cell 0
    have cT1w14 : w14.cell? ⟨w10.heap.size, 1, none⟩ = some (.int .i64 tr.term) := HTw14.out.cell 1
    have cT2w14 : w14.cell? ⟨w10.heap.size, 2, none⟩ = some (.slice TA tr.kids.length tc) := HTw14.out.cell 2
    have czTw14 : w10.heap.size < w14.heap.size := HTw14.out.lt
    refine hK.out _ _ ?hb5 (fun hHeld => ?rb5)
    case hb5 => ((try dsimp only); go_keep)
    clear hK Kq
    try simp only [Act.put, List.setIfInBounds_toArray, List.set_cons_zero, List.set_cons_succ]
    refine take_run (i := 6) (v := ?vb6) rfl (by kernel_rfl) (by kernel_rfl) (by kernel_rfl) (fun _ _ _ h => h) (by rfl) ?yb6 (by assumption) ?rb6
    case yb6 => (intro w hSw; (try dsimp only at hSw); go_simp; try with_reducible rfl)
    try simp only [Act.put, List.setIfInBounds_toArray, List.set_cons_zero, List.set_cons_succ]
    refine take_run (i := 7) (v := ?vb7) rfl (by kernel_rfl) (by kernel_rfl) (by kernel_rfl) (fun _ _ _ h => h) (by rfl) ?yb7 (by assumption) ?rb7
    case yb7 => (intro w hSw; (try dsimp only at hSw); go_simp; try with_reducible rfl)
    try simp only [Act.put, List.setIfInBounds_toArray, List.set_cons_zero, List.set_cons_succ]
    refine take_run (i := 8) (v := ?vb8) rfl (by kernel_rfl) (by kernel_rfl) (by kernel_rfl) (fun _ _ _ h => h) (by rfl) ?yb8 (by assumption) ?rb8
    case yb8 => (intro w hSw; (try dsimp only at hSw); go_simp; try with_reducible rfl)
    try simp only [Act.put, List.setIfInBounds_toArray, List.set_cons_zero, List.set_cons_succ]
    refine take_run (i := 10) (v := ?vb10) rfl (by kernel_rfl) (by kernel_rfl) (by kernel_rfl) (fun _ _ _ h => h) (by rfl) ?yb10 (by assumption) ?rb10
    case yb10 => (intro w hSw; (try dsimp only at hSw); go_simp; try with_reducible rfl)
    try simp only [Act.put, List.setIfInBounds_toArray, List.set_cons_zero, List.set_cons_succ]
    refine take_call (i := 9) rfl (by kernel_rfl) (by rfl) (fun Kq hK => ?_)
    go_simp
    go_at_call 16
    refine (yield_any x XA xc (fun b => b < w12.heap.size) w14 (fun b h => by have h0 : b < w12.heap.size := h; omega) HXi.out.1 HXi.out.2.1 HXi.out.2.2.1 HXi.out.2.2.2 EXw14.out (by rw [HM.out.2.2, List.length_reverse]; have := HT.out.2.1; omega)).mono ?_
    rintro e w15 ⟨v, rfl, hv, hbw15⟩
    obtain ⟨py, hpy⟩ : ∃ py, py = yieldT x := ⟨_, rfl⟩
    rw [← hpy] at hv
    have HPy := Lib.hid hpy
    clear hpy
    obtain ⟨PA, pc, rfl, _, _, _⟩ := hv.form
    have EPx := Lib.hid (hv.vl.els.2.2.2.keep (S' := fun b => b < w15.heap.size) (fun _ _ _ => rfl) (fun b hb => hb.2))
    have HBw15 := Lib.hid (bthen HBw14.out hbw15 HBw14.out.size)
    have zw14w15 : w14.heap.size ≤ w15.heap.size := hbw15.size
    have HGw15 := Lib.hid (HGw14.out.below hbw15 HGw14.out.lt)
    have HRw15 := Lib.hid (HRw14.out.below hbw15 HRw14.out.lt)
    have HTw15 := Lib.hid (HTw14.out.below hbw15 HTw14.out.lt)
    have HXw15 := Lib.hid (HXw14.out.below hbw15 HXw14.out.lt)
    have Eraww15 := Lib.hid (Eraww14.out.below hbw15)
    have Ewordw15 := Lib.hid (Ewordw14.out.below hbw15)
    have Echw15 := Lib.hid (Echw14.out.below hbw15)
    have Etabw15 := Lib.hid (Etabw14.out.below hbw15 Etabw14.out.1)
    have EAw15 := Lib.hid (EAw14.out.below hbw15)
    have EYw15 := Lib.hid (EYw14.out.below hbw15)
    have ERw15 := Lib.hid (ERw14.out.below hbw15)
    have EVw15 := Lib.hid (EVw14.out.below hbw15)
    have ETw15 := Lib.hid (ETw14.out.below hbw15)
    have EXw15 := Lib.hid (EXw14.out.below hbw15)
    clear HGw14 HRw14 HTw14 HXw14 Eraww14 Ewordw14 Echw14 Etabw14 EAw14 EYw14 ERw14 EVw14 ETw14 EXw14
    clear hbw15 hv cR0w14 cR1w14 cR2w14 cR3w14 czRw14 cX0w14 cX1w14 cX2w14 czXw14 cT0w14 cT1w14 cT2w14 czTw14
    have EPw15 := EPx
    clear EPx
    have cR0w15 : w15.cell? ⟨w4.heap.size, 0, none⟩ = some (.int .i64 (gm : Int)) := HRw15.out.cell 0
    have cR1w15 : w15.cell? ⟨w4.heap.size, 1, none⟩ = some (.int .i64 (gn : Int)) := HRw15.out.cell 1
    have cR2w15 : w15.cell? ⟨w4.heap.size, 2, none⟩ = some (.int .i64 (gs : Int)) := HRw15.out.cell 2
    have cR3w15 : w15.cell? ⟨w4.heap.size, 3, none⟩ = some (.slice AR rr.length cR) := HRw15.out.cell 3
    have czRw15 : w4.heap.size < w15.heap.size := HRw15.out.lt
    have cX0w15 : w15.cell? ⟨w12.heap.size, 0, none⟩ = some (.int .i64 x.rule) := HXw15.out.cell 0
    have cX1w15 : w15.cell? ⟨w12.heap.size, 1, none⟩ = some (.int .i64 x.term) := HXw15.out.cell 1
    have cX2w15 : w15.cell? ⟨w12.heap.size, 2, none⟩ = some (.slice XA x.kids.length xc) := HXw15.out.cell 2
    have czXw15 : w12.heap.size < w15.heap.size := HXw15.out.lt
    have cT0w15 : w15.cell? ⟨w10.heap.size, 0, none⟩ = some (.int .i64 tr.rule) := HTw15.out.cell 0
    have cT1w15 : w15.cell? ⟨w10.heap.size, 1, none⟩ = some (.int .i64 tr.term) := HTw15.out.cell 1
    have cT2w15 : w15.cell? ⟨w10.heap.size, 2, none⟩ = some (.slice TA tr.kids.length tc) := HTw15.out.cell 2
    have czTw15 : w10.heap.size < w15.heap.size := HTw15.out.lt
    refine hK.out _ _ ?hb9 (fun hHeld => ?rb9)
    case hb9 => ((try dsimp only); go_keep)
    clear hK Kq
    try simp only [Act.put, List.setIfInBounds_toArray, List.set_cons_zero, List.set_cons_succ]
    refine take_call (i := 11) rfl (by kernel_rfl) (by rfl) (fun Kq hK => ?_)
    go_simp
    go_at_call 16
    refine (yield_any tr TA tc (fun b => b < w10.heap.size) w15 (fun b h => by have h0 : b < w10.heap.size := h; omega) HI.out.1 HI.out.2.1 HI.out.2.2.1 HI.out.2.2.2 ETw15.out (by have := HT.out.2.1; omega)).mono ?_
    rintro e w16 ⟨v, rfl, hv, hbw16⟩
    obtain ⟨ZA, zc, rfl, hz1, hz2, _⟩ := hv.form
    have HZ := Lib.hid (And.intro hz1 hz2)
    have EZx := Lib.hid (hv.vl.els.2.2.2.keep (S' := fun b => b < w16.heap.size) (fun _ _ _ => rfl) (fun b hb => hb.2))
    have HBw16 := Lib.hid (bthen HBw15.out hbw16 HBw15.out.size)
    have zw15w16 : w15.heap.size ≤ w16.heap.size := hbw16.size
    have HGw16 := Lib.hid (HGw15.out.below hbw16 HGw15.out.lt)
    have HRw16 := Lib.hid (HRw15.out.below hbw16 HRw15.out.lt)
    have HTw16 := Lib.hid (HTw15.out.below hbw16 HTw15.out.lt)
    have HXw16 := Lib.hid (HXw15.out.below hbw16 HXw15.out.lt)
    have Eraww16 := Lib.hid (Eraww15.out.below hbw16)
    have Ewordw16 := Lib.hid (Ewordw15.out.below hbw16)
    have Echw16 := Lib.hid (Echw15.out.below hbw16)
    have Etabw16 := Lib.hid (Etabw15.out.below hbw16 Etabw15.out.1)
    have EAw16 := Lib.hid (EAw15.out.below hbw16)
    have EYw16 := Lib.hid (EYw15.out.below hbw16)
    have ERw16 := Lib.hid (ERw15.out.below hbw16)
    have EVw16 := Lib.hid (EVw15.out.below hbw16)
    have ETw16 := Lib.hid (ETw15.out.below hbw16)
    have EXw16 := Lib.hid (EXw15.out.below hbw16)
    have EPw16 := Lib.hid (EPw15.out.below hbw16)
    clear HGw15 HRw15 HTw15 HXw15 Eraww15 Ewordw15 Echw15 Etabw15 EAw15 EYw15 ERw15 EVw15 ETw15 EXw15 EPw15
    clear hbw16 hv hz1 hz2 cR0w15 cR1w15 cR2w15 cR3w15 czRw15 cX0w15 cX1w15 cX2w15 czXw15 cT0w15 cT1w15 cT2w15 czTw15
    have EZw16 := EZx
    clear EZx
    have cR0w16 : w16.cell? ⟨w4.heap.size, 0, none⟩ = some (.int .i64 (gm : Int)) := HRw16.out.cell 0
    have cR1w16 : w16.cell? ⟨w4.heap.size, 1, none⟩ = some (.int .i64 (gn : Int)) := HRw16.out.cell 1
    have cR2w16 : w16.cell? ⟨w4.heap.size, 2, none⟩ = some (.int .i64 (gs : Int)) := HRw16.out.cell 2
    have cR3w16 : w16.cell? ⟨w4.heap.size, 3, none⟩ = some (.slice AR rr.length cR) := HRw16.out.cell 3
    have czRw16 : w4.heap.size < w16.heap.size := HRw16.out.lt
    have cX0w16 : w16.cell? ⟨w12.heap.size, 0, none⟩ = some (.int .i64 x.rule) := HXw16.out.cell 0
    have cX1w16 : w16.cell? ⟨w12.heap.size, 1, none⟩ = some (.int .i64 x.term) := HXw16.out.cell 1
    have cX2w16 : w16.cell? ⟨w12.heap.size, 2, none⟩ = some (.slice XA x.kids.length xc) := HXw16.out.cell 2
    have czXw16 : w12.heap.size < w16.heap.size := HXw16.out.lt
    have cT0w16 : w16.cell? ⟨w10.heap.size, 0, none⟩ = some (.int .i64 tr.rule) := HTw16.out.cell 0
    have cT1w16 : w16.cell? ⟨w10.heap.size, 1, none⟩ = some (.int .i64 tr.term) := HTw16.out.cell 1
    have cT2w16 : w16.cell? ⟨w10.heap.size, 2, none⟩ = some (.slice TA tr.kids.length tc) := HTw16.out.cell 2
    have czTw16 : w10.heap.size < w16.heap.size := HTw16.out.lt
    refine hK.out _ _ ?hb11 (fun hHeld => ?rb11)
    case hb11 => ((try dsimp only); go_keep)
    clear hK Kq
    try simp only [Act.put, List.setIfInBounds_toArray, List.set_cons_zero, List.set_cons_succ]
    refine take_call (i := 12) rfl (by kernel_rfl) (by rfl) (fun Kq hK => ?_)
    go_simp
    go_at_call 21
    refine (reversed2_any (yieldT tr) ZA zc (fun b => b < w16.heap.size) w16 (by have := HT.out.2.1; omega) HZ.out.2 EZw16.out).mono ?_
    rintro e w17 ⟨UA, uc, ul, hul, rfl, huE, hbw17⟩
    have HUl := Lib.hid hul
    have EUx := Lib.hid (huE.keep (S' := fun b => b < w17.heap.size) (fun _ _ _ => rfl) (fun b hb => hb.2))
    have HBw17 := Lib.hid (bthen HBw16.out hbw17 HBw16.out.size)
    have zw16w17 : w16.heap.size ≤ w17.heap.size := hbw17.size
    have HGw17 := Lib.hid (HGw16.out.below hbw17 HGw16.out.lt)
    have HRw17 := Lib.hid (HRw16.out.below hbw17 HRw16.out.lt)
    have HTw17 := Lib.hid (HTw16.out.below hbw17 HTw16.out.lt)
    have HXw17 := Lib.hid (HXw16.out.below hbw17 HXw16.out.lt)
    have Eraww17 := Lib.hid (Eraww16.out.below hbw17)
    have Ewordw17 := Lib.hid (Ewordw16.out.below hbw17)
    have Echw17 := Lib.hid (Echw16.out.below hbw17)
    have Etabw17 := Lib.hid (Etabw16.out.below hbw17 Etabw16.out.1)
    have EAw17 := Lib.hid (EAw16.out.below hbw17)
    have EYw17 := Lib.hid (EYw16.out.below hbw17)
    have ERw17 := Lib.hid (ERw16.out.below hbw17)
    have EVw17 := Lib.hid (EVw16.out.below hbw17)
    have ETw17 := Lib.hid (ETw16.out.below hbw17)
    have EXw17 := Lib.hid (EXw16.out.below hbw17)
    have EPw17 := Lib.hid (EPw16.out.below hbw17)
    have EZw17 := Lib.hid (EZw16.out.below hbw17)
    clear HGw16 HRw16 HTw16 HXw16 Eraww16 Ewordw16 Echw16 Etabw16 EAw16 EYw16 ERw16 EVw16 ETw16 EXw16 EPw16 EZw16
    clear hbw17 huE hul cR0w16 cR1w16 cR2w16 cR3w16 czRw16 cX0w16 cX1w16 cX2w16 czXw16 cT0w16 cT1w16 cT2w16 czTw16
    have EUw17 := EUx
    clear EUx
    have cR0w17 : w17.cell? ⟨w4.heap.size, 0, none⟩ = some (.int .i64 (gm : Int)) := HRw17.out.cell 0
    have cR1w17 : w17.cell? ⟨w4.heap.size, 1, none⟩ = some (.int .i64 (gn : Int)) := HRw17.out.cell 1
    have cR2w17 : w17.cell? ⟨w4.heap.size, 2, none⟩ = some (.int .i64 (gs : Int)) := HRw17.out.cell 2
    have cR3w17 : w17.cell? ⟨w4.heap.size, 3, none⟩ = some (.slice AR rr.length cR) := HRw17.out.cell 3
    have czRw17 : w4.heap.size < w17.heap.size := HRw17.out.lt
    have cX0w17 : w17.cell? ⟨w12.heap.size, 0, none⟩ = some (.int .i64 x.rule) := HXw17.out.cell 0
    have cX1w17 : w17.cell? ⟨w12.heap.size, 1, none⟩ = some (.int .i64 x.term) := HXw17.out.cell 1
    have cX2w17 : w17.cell? ⟨w12.heap.size, 2, none⟩ = some (.slice XA x.kids.length xc) := HXw17.out.cell 2
    have czXw17 : w12.heap.size < w17.heap.size := HXw17.out.lt
    have cT0w17 : w17.cell? ⟨w10.heap.size, 0, none⟩ = some (.int .i64 tr.rule) := HTw17.out.cell 0
    have cT1w17 : w17.cell? ⟨w10.heap.size, 1, none⟩ = some (.int .i64 tr.term) := HTw17.out.cell 1
    have cT2w17 : w17.cell? ⟨w10.heap.size, 2, none⟩ = some (.slice TA tr.kids.length tc) := HTw17.out.cell 2
    have czTw17 : w10.heap.size < w17.heap.size := HTw17.out.lt
    refine hK.out _ _ ?hb12 (fun hHeld => ?rb12)
    case hb12 => ((try dsimp only); go_keep)
    clear hK Kq
    try simp only [Act.put, List.setIfInBounds_toArray, List.set_cons_zero, List.set_cons_succ]
    refine take_call (i := 13) rfl (by kernel_rfl) (by rfl) (fun Kq hK => ?_)
    go_simp
    go_at_call 23
    refine (equalInt_any PA UA py ul py.length ul.length pc uc (fun b => b < w15.heap.size) (fun b => b < w17.heap.size) w17 rfl rfl (by rw [HPy.out, HM.out.2.2, List.length_reverse]; have := HT.out.2.1; omega) (by rw [HUl.out, List.length_reverse]; have := HT.out.2.1; omega) EPw17.out EUw17.out).mono ?_
    rintro e w18 ⟨rfl, hbw18⟩
    rw [show decide (py = ul) = true from decide_eq_true (by rw [HPy.out, HUl.out]; exact HM.out.2.2)]
    have HBw18 := Lib.hid (bthen HBw17.out hbw18 HBw17.out.size)
    have zw17w18 : w17.heap.size ≤ w18.heap.size := hbw18.size
    have HGw18 := Lib.hid (HGw17.out.below hbw18 HGw17.out.lt)
    have HRw18 := Lib.hid (HRw17.out.below hbw18 HRw17.out.lt)
    have HTw18 := Lib.hid (HTw17.out.below hbw18 HTw17.out.lt)
    have HXw18 := Lib.hid (HXw17.out.below hbw18 HXw17.out.lt)
    have Eraww18 := Lib.hid (Eraww17.out.below hbw18)
    have Ewordw18 := Lib.hid (Ewordw17.out.below hbw18)
    have Echw18 := Lib.hid (Echw17.out.below hbw18)
    have Etabw18 := Lib.hid (Etabw17.out.below hbw18 Etabw17.out.1)
    have EAw18 := Lib.hid (EAw17.out.below hbw18)
    have EYw18 := Lib.hid (EYw17.out.below hbw18)
    have ERw18 := Lib.hid (ERw17.out.below hbw18)
    have EVw18 := Lib.hid (EVw17.out.below hbw18)
    have ETw18 := Lib.hid (ETw17.out.below hbw18)
    have EXw18 := Lib.hid (EXw17.out.below hbw18)
    have EPw18 := Lib.hid (EPw17.out.below hbw18)
    have EZw18 := Lib.hid (EZw17.out.below hbw18)
    have EUw18 := Lib.hid (EUw17.out.below hbw18)
    clear HGw17 HRw17 HTw17 HXw17 Eraww17 Ewordw17 Echw17 Etabw17 EAw17 EYw17 ERw17 EVw17 ETw17 EXw17 EPw17 EZw17 EUw17
    clear hbw18 cR0w17 cR1w17 cR2w17 cR3w17 czRw17 cX0w17 cX1w17 cX2w17 czXw17 cT0w17 cT1w17 cT2w17 czTw17
    have cR0w18 : w18.cell? ⟨w4.heap.size, 0, none⟩ = some (.int .i64 (gm : Int)) := HRw18.out.cell 0
    have cR1w18 : w18.cell? ⟨w4.heap.size, 1, none⟩ = some (.int .i64 (gn : Int)) := HRw18.out.cell 1
    have cR2w18 : w18.cell? ⟨w4.heap.size, 2, none⟩ = some (.int .i64 (gs : Int)) := HRw18.out.cell 2
    have cR3w18 : w18.cell? ⟨w4.heap.size, 3, none⟩ = some (.slice AR rr.length cR) := HRw18.out.cell 3
    have czRw18 : w4.heap.size < w18.heap.size := HRw18.out.lt
    have cX0w18 : w18.cell? ⟨w12.heap.size, 0, none⟩ = some (.int .i64 x.rule) := HXw18.out.cell 0
    have cX1w18 : w18.cell? ⟨w12.heap.size, 1, none⟩ = some (.int .i64 x.term) := HXw18.out.cell 1
    have cX2w18 : w18.cell? ⟨w12.heap.size, 2, none⟩ = some (.slice XA x.kids.length xc) := HXw18.out.cell 2
    have czXw18 : w12.heap.size < w18.heap.size := HXw18.out.lt
    have cT0w18 : w18.cell? ⟨w10.heap.size, 0, none⟩ = some (.int .i64 tr.rule) := HTw18.out.cell 0
    have cT1w18 : w18.cell? ⟨w10.heap.size, 1, none⟩ = some (.int .i64 tr.term) := HTw18.out.cell 1
    have cT2w18 : w18.cell? ⟨w10.heap.size, 2, none⟩ = some (.slice TA tr.kids.length tc) := HTw18.out.cell 2
    have czTw18 : w10.heap.size < w18.heap.size := HTw18.out.lt
    refine hK.out _ _ ?hb13 (fun hHeld => ?rb13)
    case hb13 => ((try dsimp only); go_keep)
    clear hK Kq
    try simp only [Act.put, List.setIfInBounds_toArray, List.set_cons_zero, List.set_cons_succ]
    refine take_run (i := 14) (v := ?vb14) rfl (by kernel_rfl) (by kernel_rfl) (by kernel_rfl) (fun _ _ _ h => h) (by rfl) ?yb14 (by assumption) ?rb14
    case yb14 => (intro w hSw; (try dsimp only at hSw); go_simp; try with_reducible rfl)
    try simp only [Act.put, List.setIfInBounds_toArray, List.set_cons_zero, List.set_cons_succ]
    refine take_run (i := 15) (v := ?vb15) rfl (by kernel_rfl) (by kernel_rfl) (by kernel_rfl) (fun _ _ _ h => h) (by rfl) ?yb15 (by assumption) ?rb15
    case yb15 => (intro w hSw; (try dsimp only at hSw); go_simp; try with_reducible rfl)
    try simp only [Act.put, List.setIfInBounds_toArray, List.set_cons_zero, List.set_cons_succ]
    refine take_run (i := 16) (v := ?vb16) rfl (by kernel_rfl) (by kernel_rfl) (by kernel_rfl) (fun _ _ _ h => h) (by rfl) ?yb16 (by assumption) ?rb16
    case yb16 => (intro w hSw; (try dsimp only at hSw); go_simp; try with_reducible rfl)
    try simp only [Act.put, List.setIfInBounds_toArray, List.set_cons_zero, List.set_cons_succ]
    refine take_run (i := 18) (v := ?vb18) rfl (by kernel_rfl) (by kernel_rfl) (by kernel_rfl) (fun _ _ _ h => h) (by rfl) ?yb18 (by assumption) ?rb18
    case yb18 => (intro w hSw; (try dsimp only at hSw); go_simp; try with_reducible rfl)
    try simp only [Act.put, List.setIfInBounds_toArray, List.set_cons_zero, List.set_cons_succ]
    refine take_call (i := 17) rfl (by kernel_rfl) (by rfl) (fun Kq hK => ?_)
    go_simp
    go_at_call 22
    refine (mirror_any x (fun b => b < w12.heap.size) XA xc w18 HXi.out.1 HXi.out.2.1 (by have := HXn.out; omega) HXi.out.2.2.1 HXi.out.2.2.2 (fun b h => by have h0 : b < w12.heap.size := h; omega) EXw18.out).mono ?_
    rintro e w19 hres
    rw [HXm.out] at hres
    obtain ⟨MA, mc, rfl, _, _, hm3, hm4, hmE, hbw19⟩ := hres
    have HMi := Lib.hid (And.intro hm3 hm4)
    have EMx := Lib.hid (hmE.keep (S' := fun b => b < w19.heap.size) (fun _ _ _ => rfl) (fun b hb => hb.2))
    have HBw19 := Lib.hid (bthen HBw18.out hbw19 HBw18.out.size)
    have zw18w19 : w18.heap.size ≤ w19.heap.size := hbw19.size
    have HGw19 := Lib.hid (HGw18.out.below hbw19 HGw18.out.lt)
    have HRw19 := Lib.hid (HRw18.out.below hbw19 HRw18.out.lt)
    have HTw19 := Lib.hid (HTw18.out.below hbw19 HTw18.out.lt)
    have HXw19 := Lib.hid (HXw18.out.below hbw19 HXw18.out.lt)
    have Eraww19 := Lib.hid (Eraww18.out.below hbw19)
    have Ewordw19 := Lib.hid (Ewordw18.out.below hbw19)
    have Echw19 := Lib.hid (Echw18.out.below hbw19)
    have Etabw19 := Lib.hid (Etabw18.out.below hbw19 Etabw18.out.1)
    have EAw19 := Lib.hid (EAw18.out.below hbw19)
    have EYw19 := Lib.hid (EYw18.out.below hbw19)
    have ERw19 := Lib.hid (ERw18.out.below hbw19)
    have EVw19 := Lib.hid (EVw18.out.below hbw19)
    have ETw19 := Lib.hid (ETw18.out.below hbw19)
    have EXw19 := Lib.hid (EXw18.out.below hbw19)
    have EPw19 := Lib.hid (EPw18.out.below hbw19)
    have EZw19 := Lib.hid (EZw18.out.below hbw19)
    have EUw19 := Lib.hid (EUw18.out.below hbw19)
    clear HGw18 HRw18 HTw18 HXw18 Eraww18 Ewordw18 Echw18 Etabw18 EAw18 EYw18 ERw18 EVw18 ETw18 EXw18 EPw18 EZw18 EUw18
    clear hbw19 hm3 hm4 hmE cR0w18 cR1w18 cR2w18 cR3w18 czRw18 cX0w18 cX1w18 cX2w18 czXw18 cT0w18 cT1w18 cT2w18 czTw18
    have EMw19 := EMx
    clear EMx
    have cR0w19 : w19.cell? ⟨w4.heap.size, 0, none⟩ = some (.int .i64 (gm : Int)) := HRw19.out.cell 0
    have cR1w19 : w19.cell? ⟨w4.heap.size, 1, none⟩ = some (.int .i64 (gn : Int)) := HRw19.out.cell 1
    have cR2w19 : w19.cell? ⟨w4.heap.size, 2, none⟩ = some (.int .i64 (gs : Int)) := HRw19.out.cell 2
    have cR3w19 : w19.cell? ⟨w4.heap.size, 3, none⟩ = some (.slice AR rr.length cR) := HRw19.out.cell 3
    have czRw19 : w4.heap.size < w19.heap.size := HRw19.out.lt
    have cX0w19 : w19.cell? ⟨w12.heap.size, 0, none⟩ = some (.int .i64 x.rule) := HXw19.out.cell 0
    have cX1w19 : w19.cell? ⟨w12.heap.size, 1, none⟩ = some (.int .i64 x.term) := HXw19.out.cell 1
    have cX2w19 : w19.cell? ⟨w12.heap.size, 2, none⟩ = some (.slice XA x.kids.length xc) := HXw19.out.cell 2
    have czXw19 : w12.heap.size < w19.heap.size := HXw19.out.lt
    have cT0w19 : w19.cell? ⟨w10.heap.size, 0, none⟩ = some (.int .i64 tr.rule) := HTw19.out.cell 0
    have cT1w19 : w19.cell? ⟨w10.heap.size, 1, none⟩ = some (.int .i64 tr.term) := HTw19.out.cell 1
    have cT2w19 : w19.cell? ⟨w10.heap.size, 2, none⟩ = some (.slice TA tr.kids.length tc) := HTw19.out.cell 2
    have czTw19 : w10.heap.size < w19.heap.size := HTw19.out.lt
    refine hK.out _ _ ?hb17 (fun hHeld => ?rb17)
    case hb17 => ((try dsimp only); go_keep)
    clear hK Kq
    try simp only [Act.put, List.setIfInBounds_toArray, List.set_cons_zero, List.set_cons_succ]
    refine take_call (i := 19) rfl (by kernel_rfl) (by rfl) (fun Kq hK => ?_)
    go_simp
    go_at_call 24
    refine (sameTreeK_any _ _ tr tr MA TA mc tc w19 HMi.out HI.out.2.2 EMw19.out ETw19.out).mono ?_
    rintro e w20 ⟨rfl, hbw20⟩
    rw [show decide (tr = tr) = true from decide_eq_true rfl]
    have HBw20 := Lib.hid (bthen HBw19.out hbw20 HBw19.out.size)
    have zw19w20 : w19.heap.size ≤ w20.heap.size := hbw20.size
    have HGw20 := Lib.hid (HGw19.out.below hbw20 HGw19.out.lt)
    have HRw20 := Lib.hid (HRw19.out.below hbw20 HRw19.out.lt)
    have HTw20 := Lib.hid (HTw19.out.below hbw20 HTw19.out.lt)
    have HXw20 := Lib.hid (HXw19.out.below hbw20 HXw19.out.lt)
    have Eraww20 := Lib.hid (Eraww19.out.below hbw20)
    have Ewordw20 := Lib.hid (Ewordw19.out.below hbw20)
    have Echw20 := Lib.hid (Echw19.out.below hbw20)
    have Etabw20 := Lib.hid (Etabw19.out.below hbw20 Etabw19.out.1)
    have EAw20 := Lib.hid (EAw19.out.below hbw20)
    have EYw20 := Lib.hid (EYw19.out.below hbw20)
    have ERw20 := Lib.hid (ERw19.out.below hbw20)
    have EVw20 := Lib.hid (EVw19.out.below hbw20)
    have ETw20 := Lib.hid (ETw19.out.below hbw20)
    have EXw20 := Lib.hid (EXw19.out.below hbw20)
    have EPw20 := Lib.hid (EPw19.out.below hbw20)
    have EZw20 := Lib.hid (EZw19.out.below hbw20)
    have EUw20 := Lib.hid (EUw19.out.below hbw20)
    have EMw20 := Lib.hid (EMw19.out.below hbw20)
    clear HGw19 HRw19 HTw19 HXw19 Eraww19 Ewordw19 Echw19 Etabw19 EAw19 EYw19 ERw19 EVw19 ETw19 EXw19 EPw19 EZw19 EUw19 EMw19
    clear hbw20 cR0w19 cR1w19 cR2w19 cR3w19 czRw19 cX0w19 cX1w19 cX2w19 czXw19 cT0w19 cT1w19 cT2w19 czTw19
    have cR0w20 : w20.cell? ⟨w4.heap.size, 0, none⟩ = some (.int .i64 (gm : Int)) := HRw20.out.cell 0
    have cR1w20 : w20.cell? ⟨w4.heap.size, 1, none⟩ = some (.int .i64 (gn : Int)) := HRw20.out.cell 1
    have cR2w20 : w20.cell? ⟨w4.heap.size, 2, none⟩ = some (.int .i64 (gs : Int)) := HRw20.out.cell 2
    have cR3w20 : w20.cell? ⟨w4.heap.size, 3, none⟩ = some (.slice AR rr.length cR) := HRw20.out.cell 3
    have czRw20 : w4.heap.size < w20.heap.size := HRw20.out.lt
    have cX0w20 : w20.cell? ⟨w12.heap.size, 0, none⟩ = some (.int .i64 x.rule) := HXw20.out.cell 0
    have cX1w20 : w20.cell? ⟨w12.heap.size, 1, none⟩ = some (.int .i64 x.term) := HXw20.out.cell 1
    have cX2w20 : w20.cell? ⟨w12.heap.size, 2, none⟩ = some (.slice XA x.kids.length xc) := HXw20.out.cell 2
    have czXw20 : w12.heap.size < w20.heap.size := HXw20.out.lt
    have cT0w20 : w20.cell? ⟨w10.heap.size, 0, none⟩ = some (.int .i64 tr.rule) := HTw20.out.cell 0
    have cT1w20 : w20.cell? ⟨w10.heap.size, 1, none⟩ = some (.int .i64 tr.term) := HTw20.out.cell 1
    have cT2w20 : w20.cell? ⟨w10.heap.size, 2, none⟩ = some (.slice TA tr.kids.length tc) := HTw20.out.cell 2
    have czTw20 : w10.heap.size < w20.heap.size := HTw20.out.lt
    refine hK.out _ _ ?hb19 (fun hHeld => ?rb19)
    case hb19 => ((try dsimp only); go_keep)
    clear hK Kq
    try simp only [Act.put, List.setIfInBounds_toArray, List.set_cons_zero, List.set_cons_succ]
    refine take_run (i := 20) (v := ?vb20) rfl (by kernel_rfl) (by kernel_rfl) (by kernel_rfl) (fun _ _ _ h => h) (by rfl) ?yb20 (by assumption) ?rb20
    case yb20 => (intro w hSw; (try dsimp only at hSw); go_simp; try with_reducible rfl)
    try simp only [Act.put, List.setIfInBounds_toArray, List.set_cons_zero, List.set_cons_succ]
    refine take_run (i := 21) (v := ?vb21) rfl (by kernel_rfl) (by kernel_rfl) (by kernel_rfl) (fun _ _ _ h => h) (by rfl) ?yb21 (by assumption) ?rb21
    case yb21 => (intro w hSw; (try dsimp only at hSw); go_simp; try with_reducible rfl)
    try simp only [Act.put, List.setIfInBounds_toArray, List.set_cons_zero, List.set_cons_succ]
    refine take_run (i := 22) (v := ?vb22) rfl (by kernel_rfl) (by kernel_rfl) (by kernel_rfl) (fun _ _ _ h => h) (by rfl) ?yb22 (by assumption) ?rb22
    case yb22 => (intro w hSw; (try dsimp only at hSw); go_simp; try with_reducible rfl)
    try simp only [Act.put, List.setIfInBounds_toArray, List.set_cons_zero, List.set_cons_succ]
    refine wpAnyH_done (by kernel_rfl) ?_ _
    refine NoPanic.normal ?_
    go_wp2
    go_ret
    exact ⟨rfl, HBw20.out⟩

theorem closedReverse_row (raw word ch : List Int) (v0 v1 v2 : Value) (W : World) (h0 : Vl W (OldS W) raw v0) (h1 : Vl W (OldS W) word v1) (h2 : Vl W (OldS W) ch v2) (hT : Tab32 W) :
    Calls Tryd.prog 6 #[v0, v1, v2] W fun e W' => e = .returned (.bool true) ∧ Below W.heap.size W W' := by
  obtain ⟨A0, c0, rfl, p0, q0, e0⟩ := h0.slice
  obtain ⟨A1, c1, rfl, p1, q1, e1⟩ := h1.slice
  obtain ⟨A2, c2, rfl, p2, q2, e2⟩ := h2.slice
  exact closedReverse_any raw A0 c0 word A1 c1 ch A2 c2 (OldS W) W p0 q0 e0 p1 q1 e1 p2 q2 e2 (fun b h => h) hT
end Go.Proofs.YtnlpeiffbnlncaaDoor
