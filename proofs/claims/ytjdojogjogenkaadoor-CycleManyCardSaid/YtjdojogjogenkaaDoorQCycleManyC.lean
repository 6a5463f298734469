/- The walk of the law CycleMany: the word of a tree has infinitely many trees if a node's nonterminal is on a cycle, and finitely many in a grammar without cycles. -/
import Derived.Test.YtjdojogjogenkaaDoorQMeanCount
import Derived.Test.YtjdojogjogenkaaDoorQw1
import Derived.Test.YtjdojogjogenkaaDoorQCycSome
import Derived.Test.YtjdojogjogenkaaDoorQCycLoops
import Derived.Test.YtjdojogjogenkaaDoorQw2
import Derived.Test.YtjdojogjogenkaaDoorQGrammar
import Derived.Test.YtjdojogjogenkaaDoorQApartP
import Derived.Test.YtjdojogjogenkaaDoorQMakeTreeTop
import Derived.Test.YtjdojogjogenkaaDoorQp1
namespace Go.Proofs.YtjdojogjogenkaaDoor
open Go.RowKit
set_option linter.unusedVariables false

set_option maxRecDepth 100000 in
set_option maxHeartbeats 4000000 in
theorem cycleMany_any (raw : List Int) (Araw : Option Addr) (craw : Nat) (ch : List Int) (Ach : Option Addr) (cch : Nat) (S0 : Nat → Prop) (w : World) (hraw : raw.length ≤ craw) (mraw : craw ≤ 9223372036854775807) (Eraw : Els w S0 raw Araw) (hch : ch.length ≤ cch) (mch : cch ≤ 9223372036854775807) (Ech : Els w S0 ch Ach) (hS0 : ∀ b, S0 b → b < w.heap.size) (hTab : Tab32 w) :
    Calls Tryd.prog 5 #[.slice Araw raw.length craw, .slice Ach ch.length cch] w fun e w' => e = .returned (.bool true) ∧ Below w.heap.size w w' := by
  have Eraww := Lib.hid Eraw
  have Draw := Lib.hid (And.intro hraw mraw)
  have Echw := Lib.hid Ech
  have Dch := Lib.hid (And.intro hch mch)
  have HS0 := Lib.hid hS0
  have HBw : Hid (Below w.heap.size w w) := Lib.hid (Below.refl _ _)
  clear hS0 Eraw hraw mraw Ech hch mch
  have Etabw := Lib.hid hTab
  clear hTab
  go_enter Tryd.func5, Tryd.ntmps5
  go_wp2_with fail
  refine (grammar_any Araw craw raw S0 w Draw.out.1 Draw.out.2 Eraww.out (fun b hb => Nat.lt_of_lt_of_le (HS0.out b hb) HBw.out.size)).mono ?_
  rintro e w1 ⟨g, v, hmade, rfl, hvl, hbw1⟩
  obtain ⟨s, rfl, _, _, _, hs⟩ := hvl.gram
  obtain ⟨A, c, rfl, hlc, hc, hA⟩ := hs.slice
  have hck := made_check hmade
  have hvg := validG_of hck
  obtain ⟨t, nn, ss, rs⟩ := g
  dsimp only at *
  obtain ⟨gn, hn⟩ : ∃ n : Nat, nn = (n : Int) := ⟨nn.toNat, by have := hvg.n1; dsimp only at this; omega⟩
  obtain ⟨gm, hm⟩ : ∃ m : Nat, t = (m : Int) := ⟨t.toNat, by have := hvg.t1; dsimp only at this; omega⟩
  obtain ⟨gs, hs0⟩ : ∃ y : Nat, ss = (y : Int) := ⟨ss.toNat, by have := hvg.s0; dsimp only at this; omega⟩
  subst hn; subst hm; subst hs0
  have HMade := Lib.hid hmade
  have C := Lib.hid hck
  have V := Lib.hid hvg
  have Q := Lib.hid (And.intro hlc hc)
  have EX := Lib.hid (hA.keep (S' := fun b => b < w1.heap.size) (fun _ _ _ => rfl) (fun b hb => hb.2))
  have HBw1 := Lib.hid (bthen HBw.out hbw1 HBw.out.size)
  have zww1 : w.heap.size ≤ w1.heap.size := hbw1.size
  have Eraww1 := Lib.hid (Eraww.out.below hbw1)
  have Echw1 := Lib.hid (Echw.out.below hbw1)
  have Etabw1 := Lib.hid (Etabw.out.below hbw1 Etabw.out.1)
  clear hbw1 hvl hs hA hmade hck hvg hlc hc
  have EAw1 := EX
  clear EX
  obtain ⟨w2, hww2⟩ : ∃ wq : World, wq = w1.alloc (.cells #[.int .i64 (gm : Int), .int .i64 (gn : Int), .int .i64 (gs : Int), .slice A rs.length c] 24) := ⟨_, rfl⟩
  have HWw2 := Lib.hid hww2
  have hbw2 : Below w1.heap.size w1 w2 := by rw [hww2]; exact (Below.refl _ _).alloc (Nat.le_refl _) _
  have HGw2 : Hid (Blk' w2 w1.heap.size 24 #[.int .i64 (gm : Int), .int .i64 (gn : Int), .int .i64 (gs : Int), .slice A rs.length c]) := Lib.hid (by rw [hww2]; exact Blk'.new _ _ _)
  have Zw2 : Hid (w2.heap.size = w1.heap.size + 1) := Lib.hid (by rw [hww2]; simp)
  have HBw2 := Lib.hid (bthen HBw1.out hbw2 HBw1.out.size)
  have zw1w2 : w1.heap.size ≤ w2.heap.size := hbw2.size
  have Eraww2 := Lib.hid (Eraww1.out.below hbw2)
  have Echw2 := Lib.hid (Echw1.out.below hbw2)
  have Etabw2 := Lib.hid (Etabw1.out.below hbw2 Etabw1.out.1)
  have EAw2 := Lib.hid (EAw1.out.below hbw2)
  clear Eraww1 Echw1 Etabw1 EAw1
  clear hww2 hbw2
  have cG0w2 : w2.cell? ⟨w1.heap.size, 0, none⟩ = some (.int .i64 (gm : Int)) := HGw2.out.cell 0
  have cG1w2 : w2.cell? ⟨w1.heap.size, 1, none⟩ = some (.int .i64 (gn : Int)) := HGw2.out.cell 1
  have cG2w2 : w2.cell? ⟨w1.heap.size, 2, none⟩ = some (.int .i64 (gs : Int)) := HGw2.out.cell 2
  have cG3w2 : w2.cell? ⟨w1.heap.size, 3, none⟩ = some (.slice A rs.length c) := HGw2.out.cell 3
  have czGw2 : w1.heap.size < w2.heap.size := HGw2.out.lt
  go_wp2_with fail
  rw [← HWw2.out]
  clear cG0w2 cG1w2 cG2w2 cG3w2 czGw2
  refine (makeTreeZ_any ⟨(gm : Int), (gn : Int), (gs : Int), rs⟩ A c ch Ach cch (fun b => b < w1.heap.size) S0 w2 V.out.i64 Q.out.1 Q.out.2 (by have := V.out.len; (try dsimp only at this ⊢); omega) (fun q hq => by have := (V.out.rules q hq).2.2.1; omega) EAw2.out (fun b hb => by have h0 : b < w1.heap.size := hb; omega) Dch.out.1 Dch.out.2 Echw2.out (fun b hb => Nat.lt_of_lt_of_le (HS0.out b hb) HBw2.out.size)).mono ?_
  rintro e w3 ⟨v, ok, rfl, hbw3, ⟨ta, tb, TA, tn, tc, rfl⟩, hok, hno⟩
  have HBw3 := Lib.hid (bthen HBw2.out hbw3 HBw2.out.size)
  have zw2w3 : w2.heap.size ≤ w3.heap.size := hbw3.size
  have HGw3 := Lib.hid (HGw2.out.below hbw3 HGw2.out.lt)
  have Eraww3 := Lib.hid (Eraww2.out.below hbw3)
  have Echw3 := Lib.hid (Echw2.out.below hbw3)
  have Etabw3 := Lib.hid (Etabw2.out.below hbw3 Etabw2.out.1)
  have EAw3 := Lib.hid (EAw2.out.below hbw3)
  clear HGw2 Eraww2 Echw2 Etabw2 EAw2
  clear hbw3
  cases ok
  · have e := hno rfl
    clear hok hno
    injection e with e
    simp at e
    obtain ⟨rfl, rfl, rfl, rfl, rfl⟩ := e
    obtain ⟨w4, hww4⟩ : ∃ wq : World, wq = w3.alloc (.cells #[.int .i64 0, .int .i64 0, .slice none 0 0] 27) := ⟨_, rfl⟩
    have HWw4 := Lib.hid hww4
    have hbw4 : Below w3.heap.size w3 w4 := by rw [hww4]; exact (Below.refl _ _).alloc (Nat.le_refl _) _
    have HTw4 : Hid (Blk' w4 w3.heap.size 27 #[.int .i64 0, .int .i64 0, .slice none 0 0]) := Lib.hid (by rw [hww4]; exact Blk'.new _ _ _)
    have Zw4 : Hid (w4.heap.size = w3.heap.size + 1) := Lib.hid (by rw [hww4]; simp)
    have HBw4 := Lib.hid (bthen HBw3.out hbw4 HBw3.out.size)
    have zw3w4 : w3.heap.size ≤ w4.heap.size := hbw4.size
    have HGw4 := Lib.hid (HGw3.out.below hbw4 HGw3.out.lt)
    have Eraww4 := Lib.hid (Eraww3.out.below hbw4)
    have Echw4 := Lib.hid (Echw3.out.below hbw4)
    have Etabw4 := Lib.hid (Etabw3.out.below hbw4 Etabw3.out.1)
    have EAw4 := Lib.hid (EAw3.out.below hbw4)
    clear HGw3 Eraww3 Echw3 Etabw3 EAw3
    clear hww4 hbw4
    go_upto_region 3 with (fail)
    rw [← HWw4.out]
    have cG0w4 : w4.cell? ⟨w1.heap.size, 0, none⟩ = some (.int .i64 (gm : Int)) := HGw4.out.cell 0
    have cG1w4 : w4.cell? ⟨w1.heap.size, 1, none⟩ = some (.int .i64 (gn : Int)) := HGw4.out.cell 1
    have cG2w4 : w4.cell? ⟨w1.heap.size, 2, none⟩ = some (.int .i64 (gs : Int)) := HGw4.out.cell 2
    have cG3w4 : w4.cell? ⟨w1.heap.size, 3, none⟩ = some (.slice A rs.length c) := HGw4.out.cell 3
    have czGw4 : w1.heap.size < w4.heap.size := HGw4.out.lt
    go_wp2_with fail
    clear cG0w4 cG1w4 cG2w4 cG3w4 czGw4
    refine (loops_any ⟨(gm : Int), (gn : Int), (gs : Int), rs⟩ gm gn A c (fun b => b < w1.heap.size) w4 rfl rfl C.out Q.out.1 Q.out.2 EAw4.out (fun b hb => by have h0 : b < w1.heap.size := hb; omega)).mono ?_
    rintro e w5 ⟨v, lps, rfl, hL, hlo, hbw5⟩
    obtain ⟨LA, lc, rfl, _, _, _⟩ := hlo.form
    have HL := Lib.hid hL
    have hll : lps.length = gn := hL.1
    rw [hll]
    have ELx := Lib.hid (hlo.vl.els.2.2.2.keep (S' := fun b => b < w5.heap.size) (fun _ _ _ => rfl) (fun b hb => hb.2))
    have HBw5 := Lib.hid (bthen HBw4.out hbw5 HBw4.out.size)
    have zw4w5 : w4.heap.size ≤ w5.heap.size := hbw5.size
    have HGw5 := Lib.hid (HGw4.out.below hbw5 HGw4.out.lt)
    have HTw5 := Lib.hid (HTw4.out.below hbw5 HTw4.out.lt)
    have Eraww5 := Lib.hid (Eraww4.out.below hbw5)
    have Echw5 := Lib.hid (Echw4.out.below hbw5)
    have Etabw5 := Lib.hid (Etabw4.out.below hbw5 Etabw4.out.1)
    have EAw5 := Lib.hid (EAw4.out.below hbw5)
    clear HGw4 HTw4 Eraww4 Echw4 Etabw4 EAw4
    clear hbw5 hL hll hlo
    have ELw5 := ELx
    clear ELx
    obtain ⟨w6, hww6⟩ : ∃ wq : World, wq = w5.alloc (.cells #[.slice LA gn lc] 53) := ⟨_, rfl⟩
    have HWw6 := Lib.hid hww6
    have hbw6 : Below w5.heap.size w5 w6 := by rw [hww6]; exact (Below.refl _ _).alloc (Nat.le_refl _) _
    have HLBw6 : Hid (Blk' w6 w5.heap.size 53 #[.slice LA gn lc]) := Lib.hid (by rw [hww6]; exact Blk'.new _ _ _)
    have Zw6 : Hid (w6.heap.size = w5.heap.size + 1) := Lib.hid (by rw [hww6]; simp)
    have HBw6 := Lib.hid (bthen HBw5.out hbw6 HBw5.out.size)
    have zw5w6 : w5.heap.size ≤ w6.heap.size := hbw6.size
    have HGw6 := Lib.hid (HGw5.out.below hbw6 HGw5.out.lt)
    have HTw6 := Lib.hid (HTw5.out.below hbw6 HTw5.out.lt)
    have Eraww6 := Lib.hid (Eraww5.out.below hbw6)
    have Echw6 := Lib.hid (Echw5.out.below hbw6)
    have Etabw6 := Lib.hid (Etabw5.out.below hbw6 Etabw5.out.1)
    have EAw6 := Lib.hid (EAw5.out.below hbw6)
    have ELw6 := Lib.hid (ELw5.out.below hbw6)
    clear HGw5 HTw5 Eraww5 Echw5 Etabw5 EAw5 ELw5
    clear hww6 hbw6
    go_upto_region 4 with (fail)
    rw [← HWw6.out]
    have cG0w6 : w6.cell? ⟨w1.heap.size, 0, none⟩ = some (.int .i64 (gm : Int)) := HGw6.out.cell 0
    have cG1w6 : w6.cell? ⟨w1.heap.size, 1, none⟩ = some (.int .i64 (gn : Int)) := HGw6.out.cell 1
    have cG2w6 : w6.cell? ⟨w1.heap.size, 2, none⟩ = some (.int .i64 (gs : Int)) := HGw6.out.cell 2
    have cG3w6 : w6.cell? ⟨w1.heap.size, 3, none⟩ = some (.slice A rs.length c) := HGw6.out.cell 3
    have czGw6 : w1.heap.size < w6.heap.size := HGw6.out.lt
    have cLB0w6 : w6.cell? ⟨w5.heap.size, 0, none⟩ = some (.slice LA gn lc) := HLBw6.out.cell 0
    have czLBw6 : w5.heap.size < w6.heap.size := HLBw6.out.lt
    go_wp2_with fail
    clear cG0w6 cG1w6 cG2w6 cG3w6 czGw6 cLB0w6 czLBw6
    refine (works_any _).mono ?_
    rintro e w7 ⟨rfl, hbw7⟩
    have HBw7 := Lib.hid (bthen HBw6.out hbw7 HBw6.out.size)
    have zw6w7 : w6.heap.size ≤ w7.heap.size := hbw7.size
    have HGw7 := Lib.hid (HGw6.out.below hbw7 HGw6.out.lt)
    have HTw7 := Lib.hid (HTw6.out.below hbw7 HTw6.out.lt)
    have HLBw7 := Lib.hid (HLBw6.out.below hbw7 HLBw6.out.lt)
    have Eraww7 := Lib.hid (Eraww6.out.below hbw7)
    have Echw7 := Lib.hid (Echw6.out.below hbw7)
    have Etabw7 := Lib.hid (Etabw6.out.below hbw7 Etabw6.out.1)
    have EAw7 := Lib.hid (EAw6.out.below hbw7)
    have ELw7 := Lib.hid (ELw6.out.below hbw7)
    clear HGw6 HTw6 HLBw6 Eraww6 Echw6 Etabw6 EAw6 ELw6
    clear hbw7
    have cG0w7 : w7.cell? ⟨w1.heap.size, 0, none⟩ = some (.int .i64 (gm : Int)) := HGw7.out.cell 0
    have cG1w7 : w7.cell? ⟨w1.heap.size, 1, none⟩ = some (.int .i64 (gn : Int)) := HGw7.out.cell 1
    have cG2w7 : w7.cell? ⟨w1.heap.size, 2, none⟩ = some (.int .i64 (gs : Int)) := HGw7.out.cell 2
    have cG3w7 : w7.cell? ⟨w1.heap.size, 3, none⟩ = some (.slice A rs.length c) := HGw7.out.cell 3
    have czGw7 : w1.heap.size < w7.heap.size := HGw7.out.lt
    have cLB0w7 : w7.cell? ⟨w5.heap.size, 0, none⟩ = some (.slice LA gn lc) := HLBw7.out.cell 0
    have czLBw7 : w5.heap.size < w7.heap.size := HLBw7.out.lt
    have cT0w7 : w7.cell? ⟨w3.heap.size, 0, none⟩ = some (.int .i64 0) := HTw7.out.cell 0
    have cT1w7 : w7.cell? ⟨w3.heap.size, 1, none⟩ = some (.int .i64 0) := HTw7.out.cell 1
    have cT2w7 : w7.cell? ⟨w3.heap.size, 2, none⟩ = some (.slice none 0 0) := HTw7.out.cell 2
    have czTw7 : w3.heap.size < w7.heap.size := HTw7.out.lt
    go_wp2_with fail
    clear cG0w7 cG1w7 cG2w7 cG3w7 czGw7 cLB0w7 czLBw7 cT0w7 cT1w7 cT2w7 czTw7
    refine (yield_any ⟨0, 0, []⟩ none 0 (fun _ => False) w7 (fun b h => h.elim) ⟨by decide, by decide⟩ ⟨by decide, by decide⟩ (Nat.le_refl _) (by omega) (fun h => absurd rfl h) (by simp [yieldT, yields])).mono ?_
    rintro e w8 ⟨v, rfl, hv, hbw8⟩
    obtain ⟨YA, yc, rfl, _⟩ := hv.form
    have HBw8 := Lib.hid (bthen HBw7.out hbw8 HBw7.out.size)
    have zw7w8 : w7.heap.size ≤ w8.heap.size := hbw8.size
    have HGw8 := Lib.hid (HGw7.out.below hbw8 HGw7.out.lt)
    have HTw8 := Lib.hid (HTw7.out.below hbw8 HTw7.out.lt)
    have HLBw8 := Lib.hid (HLBw7.out.below hbw8 HLBw7.out.lt)
    have Eraww8 := Lib.hid (Eraww7.out.below hbw8)
    have Echw8 := Lib.hid (Echw7.out.below hbw8)
    have Etabw8 := Lib.hid (Etabw7.out.below hbw8 Etabw7.out.1)
    have EAw8 := Lib.hid (EAw7.out.below hbw8)
    have ELw8 := Lib.hid (ELw7.out.below hbw8)
    clear HGw7 HTw7 HLBw7 Eraww7 Echw7 Etabw7 EAw7 ELw7
    clear hbw8 hv
    go_wp2
    go_ret
    exact ⟨rfl, HBw8.out⟩
  · obtain ⟨tr, hvt, hvl, hy60, hn60⟩ := hok rfl
    clear hno hok
    obtain ⟨ts, he, hra, hta, hts⟩ := hvl.tree
    injection he with he
    simp at he
    obtain ⟨rfl, rfl, rfl⟩ := he
    obtain ⟨rfl, htc1, htc2, htE⟩ := hts.els
    have HT := Lib.hid (And.intro hvt (And.intro hy60 hn60))
    have HI := Lib.hid (And.intro hra (And.intro hta (And.intro htc1 htc2)))
    have ETw3 := Lib.hid (htE.keep (S' := fun b => b < w3.heap.size) (fun _ _ _ => rfl) (fun b hb => hb.2))
    clear hvt hvl hy60 hn60 hts hra hta htc1 htc2 htE
    obtain ⟨w4, hww4⟩ : ∃ wq : World, wq = w3.alloc (.cells #[.int .i64 tr.rule, .int .i64 tr.term, .slice TA tr.kids.length tc] 27) := ⟨_, rfl⟩
    have HWw4 := Lib.hid hww4
    have hbw4 : Below w3.heap.size w3 w4 := by rw [hww4]; exact (Below.refl _ _).alloc (Nat.le_refl _) _
    have HTw4 : Hid (Blk' w4 w3.heap.size 27 #[.int .i64 tr.rule, .int .i64 tr.term, .slice TA tr.kids.length tc]) := Lib.hid (by rw [hww4]; exact Blk'.new _ _ _)
    have Zw4 : Hid (w4.heap.size = w3.heap.size + 1) := Lib.hid (by rw [hww4]; simp)
    have HBw4 := Lib.hid (bthen HBw3.out hbw4 HBw3.out.size)
    have zw3w4 : w3.heap.size ≤ w4.heap.size := hbw4.size
    have HGw4 := Lib.hid (HGw3.out.below hbw4 HGw3.out.lt)
    have Eraww4 := Lib.hid (Eraww3.out.below hbw4)
    have Echw4 := Lib.hid (Echw3.out.below hbw4)
    have Etabw4 := Lib.hid (Etabw3.out.below hbw4 Etabw3.out.1)
    have EAw4 := Lib.hid (EAw3.out.below hbw4)
    have ETw4 := Lib.hid (ETw3.out.below hbw4)
    clear HGw3 Eraww3 Echw3 Etabw3 EAw3 ETw3
    clear hww4 hbw4
    go_upto_region 3 with (fail)
    rw [← HWw4.out]
    have cG0w4 : w4.cell? ⟨w1.heap.size, 0, none⟩ = some (.int .i64 (gm : Int)) := HGw4.out.cell 0
    have cG1w4 : w4.cell? ⟨w1.heap.size, 1, none⟩ = some (.int .i64 (gn : Int)) := HGw4.out.cell 1
    have cG2w4 : w4.cell? ⟨w1.heap.size, 2, none⟩ = some (.int .i64 (gs : Int)) := HGw4.out.cell 2
    have cG3w4 : w4.cell? ⟨w1.heap.size, 3, none⟩ = some (.slice A rs.length c) := HGw4.out.cell 3
    have czGw4 : w1.heap.size < w4.heap.size := HGw4.out.lt
    go_wp2_with fail
    clear cG0w4 cG1w4 cG2w4 cG3w4 czGw4
    refine (loops_any ⟨(gm : Int), (gn : Int), (gs : Int), rs⟩ gm gn A c (fun b => b < w1.heap.size) w4 rfl rfl C.out Q.out.1 Q.out.2 EAw4.out (fun b hb => by have h0 : b < w1.heap.size := hb; omega)).mono ?_
    rintro e w5 ⟨v, lps, rfl, hL, hlo, hbw5⟩
    obtain ⟨LA, lc, rfl, _, _, _⟩ := hlo.form
    have HL := Lib.hid hL
    have hll : lps.length = gn := hL.1
    rw [hll]
    have ELx := Lib.hid (hlo.vl.els.2.2.2.keep (S' := fun b => b < w5.heap.size) (fun _ _ _ => rfl) (fun b hb => hb.2))
    have HBw5 := Lib.hid (bthen HBw4.out hbw5 HBw4.out.size)
    have zw4w5 : w4.heap.size ≤ w5.heap.size := hbw5.size
    have HGw5 := Lib.hid (HGw4.out.below hbw5 HGw4.out.lt)
    have HTw5 := Lib.hid (HTw4.out.below hbw5 HTw4.out.lt)
    have Eraww5 := Lib.hid (Eraww4.out.below hbw5)
    have Echw5 := Lib.hid (Echw4.out.below hbw5)
    have Etabw5 := Lib.hid (Etabw4.out.below hbw5 Etabw4.out.1)
    have EAw5 := Lib.hid (EAw4.out.below hbw5)
    have ETw5 := Lib.hid (ETw4.out.below hbw5)
    clear HGw4 HTw4 Eraww4 Echw4 Etabw4 EAw4 ETw4
    clear hbw5 hL hll hlo
    have ELw5 := ELx
    clear ELx
    obtain ⟨w6, hww6⟩ : ∃ wq : World, wq = w5.alloc (.cells #[.slice LA gn lc] 53) := ⟨_, rfl⟩
    have HWw6 := Lib.hid hww6
    have hbw6 : Below w5.heap.size w5 w6 := by rw [hww6]; exact (Below.refl _ _).alloc (Nat.le_refl _) _
    have HLBw6 : Hid (Blk' w6 w5.heap.size 53 #[.slice LA gn lc]) := Lib.hid (by rw [hww6]; exact Blk'.new _ _ _)
    have Zw6 : Hid (w6.heap.size = w5.heap.size + 1) := Lib.hid (by rw [hww6]; simp)
    have HBw6 := Lib.hid (bthen HBw5.out hbw6 HBw5.out.size)
    have zw5w6 : w5.heap.size ≤ w6.heap.size := hbw6.size
    have HGw6 := Lib.hid (HGw5.out.below hbw6 HGw5.out.lt)
    have HTw6 := Lib.hid (HTw5.out.below hbw6 HTw5.out.lt)
    have Eraww6 := Lib.hid (Eraww5.out.below hbw6)
    have Echw6 := Lib.hid (Echw5.out.below hbw6)
    have Etabw6 := Lib.hid (Etabw5.out.below hbw6 Etabw5.out.1)
    have EAw6 := Lib.hid (EAw5.out.below hbw6)
    have ETw6 := Lib.hid (ETw5.out.below hbw6)
    have ELw6 := Lib.hid (ELw5.out.below hbw6)
    clear HGw5 HTw5 Eraww5 Echw5 Etabw5 EAw5 ETw5 ELw5
    clear hww6 hbw6
    go_upto_region 4 with (fail)
    rw [← HWw6.out]
    have cG0w6 : w6.cell? ⟨w1.heap.size, 0, none⟩ = some (.int .i64 (gm : Int)) := HGw6.out.cell 0
    have cG1w6 : w6.cell? ⟨w1.heap.size, 1, none⟩ = some (.int .i64 (gn : Int)) := HGw6.out.cell 1
    have cG2w6 : w6.cell? ⟨w1.heap.size, 2, none⟩ = some (.int .i64 (gs : Int)) := HGw6.out.cell 2
    have cG3w6 : w6.cell? ⟨w1.heap.size, 3, none⟩ = some (.slice A rs.length c) := HGw6.out.cell 3
    have czGw6 : w1.heap.size < w6.heap.size := HGw6.out.lt
    have cLB0w6 : w6.cell? ⟨w5.heap.size, 0, none⟩ = some (.slice LA gn lc) := HLBw6.out.cell 0
    have czLBw6 : w5.heap.size < w6.heap.size := HLBw6.out.lt
    go_wp2_with fail
    clear cG0w6 cG1w6 cG2w6 cG3w6 czGw6 cLB0w6 czLBw6
    refine (works_any _).mono ?_
    rintro e w7 ⟨rfl, hbw7⟩
    have HBw7 := Lib.hid (bthen HBw6.out hbw7 HBw6.out.size)
    have zw6w7 : w6.heap.size ≤ w7.heap.size := hbw7.size
    have HGw7 := Lib.hid (HGw6.out.below hbw7 HGw6.out.lt)
    have HTw7 := Lib.hid (HTw6.out.below hbw7 HTw6.out.lt)
    have HLBw7 := Lib.hid (HLBw6.out.below hbw7 HLBw6.out.lt)
    have Eraww7 := Lib.hid (Eraww6.out.below hbw7)
    have Echw7 := Lib.hid (Echw6.out.below hbw7)
    have Etabw7 := Lib.hid (Etabw6.out.below hbw7 Etabw6.out.1)
    have EAw7 := Lib.hid (EAw6.out.below hbw7)
    have ETw7 := Lib.hid (ETw6.out.below hbw7)
    have ELw7 := Lib.hid (ELw6.out.below hbw7)
    clear HGw6 HTw6 HLBw6 Eraww6 Echw6 Etabw6 EAw6 ETw6 ELw6
    clear hbw7
    have cG0w7 : w7.cell? ⟨w1.heap.size, 0, none⟩ = some (.int .i64 (gm : Int)) := HGw7.out.cell 0
    have cG1w7 : w7.cell? ⟨w1.heap.size, 1, none⟩ = some (.int .i64 (gn : Int)) := HGw7.out.cell 1
    have cG2w7 : w7.cell? ⟨w1.heap.size, 2, none⟩ = some (.int .i64 (gs : Int)) := HGw7.out.cell 2
    have cG3w7 : w7.cell? ⟨w1.heap.size, 3, none⟩ = some (.slice A rs.length c) := HGw7.out.cell 3
    have czGw7 : w1.heap.size < w7.heap.size := HGw7.out.lt
    have cLB0w7 : w7.cell? ⟨w5.heap.size, 0, none⟩ = some (.slice LA gn lc) := HLBw7.out.cell 0
    have czLBw7 : w5.heap.size < w7.heap.size := HLBw7.out.lt
    have cT0w7 : w7.cell? ⟨w3.heap.size, 0, none⟩ = some (.int .i64 tr.rule) := HTw7.out.cell 0
    have cT1w7 : w7.cell? ⟨w3.heap.size, 1, none⟩ = some (.int .i64 tr.term) := HTw7.out.cell 1
    have cT2w7 : w7.cell? ⟨w3.heap.size, 2, none⟩ = some (.slice TA tr.kids.length tc) := HTw7.out.cell 2
    have czTw7 : w3.heap.size < w7.heap.size := HTw7.out.lt
    go_wp2_with fail
    clear cG0w7 cG1w7 cG2w7 cG3w7 czGw7 cLB0w7 czLBw7 cT0w7 cT1w7 cT2w7 czTw7
    refine (yield_any tr TA tc (fun b => b < w3.heap.size) w7 (fun b h => by have h0 : b < w3.heap.size := h; omega) HI.out.1 HI.out.2.1 HI.out.2.2.1 HI.out.2.2.2 ETw7.out (by have := HT.out.2.1; omega)).mono ?_
    rintro e w8 ⟨v, rfl, hv, hbw8⟩
    obtain ⟨YA, yc, rfl, hy1, hy2, _⟩ := hv.form
    have HY := Lib.hid (And.intro hy1 hy2)
    have EYx := Lib.hid (hv.vl.els.2.2.2.keep (S' := fun b => b < w8.heap.size) (fun _ _ _ => rfl) (fun b hb => hb.2))
    have HBw8 := Lib.hid (bthen HBw7.out hbw8 HBw7.out.size)
    have zw7w8 : w7.heap.size ≤ w8.heap.size := hbw8.size
    have HGw8 := Lib.hid (HGw7.out.below hbw8 HGw7.out.lt)
    have HTw8 := Lib.hid (HTw7.out.below hbw8 HTw7.out.lt)
    have HLBw8 := Lib.hid (HLBw7.out.below hbw8 HLBw7.out.lt)
    have Eraww8 := Lib.hid (Eraww7.out.below hbw8)
    have Echw8 := Lib.hid (Echw7.out.below hbw8)
    have Etabw8 := Lib.hid (Etabw7.out.below hbw8 Etabw7.out.1)
    have EAw8 := Lib.hid (EAw7.out.below hbw8)
    have ETw8 := Lib.hid (ETw7.out.below hbw8)
    have ELw8 := Lib.hid (ELw7.out.below hbw8)
    clear HGw7 HTw7 HLBw7 Eraww7 Echw7 Etabw7 EAw7 ETw7 ELw7
    clear hbw8 hv hy1 hy2
    have EYw8 := EYx
    clear EYx
    by_cases hl : 8 < (yieldT tr).length
    · have hl' : (8 : Int) < ((yieldT tr).length : Int) := by omega
      go_wp2
      go_ret
      exact ⟨rfl, HBw8.out⟩
    · have hl' : ¬ (8 : Int) < ((yieldT tr).length : Int) := by omega
      have cG0w8 : w8.cell? ⟨w1.heap.size, 0, none⟩ = some (.int .i64 (gm : Int)) := HGw8.out.cell 0
      have cG1w8 : w8.cell? ⟨w1.heap.size, 1, none⟩ = some (.int .i64 (gn : Int)) := HGw8.out.cell 1
      have cG2w8 : w8.cell? ⟨w1.heap.size, 2, none⟩ = some (.int .i64 (gs : Int)) := HGw8.out.cell 2
      have cG3w8 : w8.cell? ⟨w1.heap.size, 3, none⟩ = some (.slice A rs.length c) := HGw8.out.cell 3
      have czGw8 : w1.heap.size < w8.heap.size := HGw8.out.lt
      go_wp2_with fail
      clear cG0w8 cG1w8 cG2w8 cG3w8 czGw8
      refine (meanCount_any ⟨(gm : Int), (gn : Int), (gs : Int), rs⟩ (yieldT tr) A YA c yc (fun b => b < w1.heap.size) (fun b => b < w8.heap.size) w8 C.out Q.out.1 Q.out.2 EAw8.out (fun b hb => by have h0 : b < w1.heap.size := hb; omega) EYw8.out (fun b hb => by have h0 : b < w8.heap.size := hb; omega) (word_rg V.out HT.out.1 (by omega)) Etabw8.out).mono ?_
      rintro e w9 ⟨k, rfl, hk, _, hbw9⟩
      have HM := Lib.hid (cycMany_cnt V.out rfl HL.out HT.out.1 hk)
      have HBw9 := Lib.hid (bthen HBw8.out hbw9 HBw8.out.size)
      have zw8w9 : w8.heap.size ≤ w9.heap.size := hbw9.size
      have HGw9 := Lib.hid (HGw8.out.below hbw9 HGw8.out.lt)
      have HTw9 := Lib.hid (HTw8.out.below hbw9 HTw8.out.lt)
      have HLBw9 := Lib.hid (HLBw8.out.below hbw9 HLBw8.out.lt)
      have Eraww9 := Lib.hid (Eraww8.out.below hbw9)
      have Echw9 := Lib.hid (Echw8.out.below hbw9)
      have Etabw9 := Lib.hid (Etabw8.out.below hbw9 Etabw8.out.1)
      have EAw9 := Lib.hid (EAw8.out.below hbw9)
      have ETw9 := Lib.hid (ETw8.out.below hbw9)
      have ELw9 := Lib.hid (ELw8.out.below hbw9)
      have EYw9 := Lib.hid (EYw8.out.below hbw9)
      clear HGw8 HTw8 HLBw8 Eraww8 Echw8 Etabw8 EAw8 ETw8 ELw8 EYw8
      clear hbw9 hk
      obtain ⟨w10, hww10⟩ : ∃ wq : World, wq = w9.alloc (.cells #[.func (.func 26) #[] #[.pointer (some ⟨w5.heap.size, 0, none⟩), .pointer (some ⟨w1.heap.size, 0, none⟩), .pointer (some ⟨w9.heap.size, 0, none⟩)]] 57) := ⟨_, rfl⟩
      have HWw10 := Lib.hid hww10
      have hbw10 : Below w9.heap.size w9 w10 := by rw [hww10]; exact (Below.refl _ _).alloc (Nat.le_refl _) _
      have HVBw10 : Hid (Blk' w10 w9.heap.size 57 #[.func (.func 26) #[] #[.pointer (some ⟨w5.heap.size, 0, none⟩), .pointer (some ⟨w1.heap.size, 0, none⟩), .pointer (some ⟨w9.heap.size, 0, none⟩)]]) := Lib.hid (by rw [hww10]; exact Blk'.new _ _ _)
      have Zw10 : Hid (w10.heap.size = w9.heap.size + 1) := Lib.hid (by rw [hww10]; simp)
      have HBw10 := Lib.hid (bthen HBw9.out hbw10 HBw9.out.size)
      have zw9w10 : w9.heap.size ≤ w10.heap.size := hbw10.size
      have HGw10 := Lib.hid (HGw9.out.below hbw10 HGw9.out.lt)
      have HTw10 := Lib.hid (HTw9.out.below hbw10 HTw9.out.lt)
      have HLBw10 := Lib.hid (HLBw9.out.below hbw10 HLBw9.out.lt)
      have Eraww10 := Lib.hid (Eraww9.out.below hbw10)
      have Echw10 := Lib.hid (Echw9.out.below hbw10)
      have Etabw10 := Lib.hid (Etabw9.out.below hbw10 Etabw9.out.1)
      have EAw10 := Lib.hid (EAw9.out.below hbw10)
      have ETw10 := Lib.hid (ETw9.out.below hbw10)
      have ELw10 := Lib.hid (ELw9.out.below hbw10)
      have EYw10 := Lib.hid (EYw9.out.below hbw10)
      clear HGw9 HTw9 HLBw9 Eraww9 Echw9 Etabw9 EAw9 ETw9 ELw9 EYw9
      clear hww10 hbw10
      go_upto_region 14 with (fail)
      rw [← HWw10.out]
      have cT0w10 : w10.cell? ⟨w3.heap.size, 0, none⟩ = some (.int .i64 tr.rule) := HTw10.out.cell 0
      have cT1w10 : w10.cell? ⟨w3.heap.size, 1, none⟩ = some (.int .i64 tr.term) := HTw10.out.cell 1
      have cT2w10 : w10.cell? ⟨w3.heap.size, 2, none⟩ = some (.slice TA tr.kids.length tc) := HTw10.out.cell 2
      have czTw10 : w3.heap.size < w10.heap.size := HTw10.out.lt
      have cVB0w10 : w10.cell? ⟨w9.heap.size, 0, none⟩ = some (.func (.func 26) #[] #[.pointer (some ⟨w5.heap.size, 0, none⟩), .pointer (some ⟨w1.heap.size, 0, none⟩), .pointer (some ⟨w9.heap.size, 0, none⟩)]) := HVBw10.out.cell 0
      have czVBw10 : w9.heap.size < w10.heap.size := HVBw10.out.lt
      go_wp2_with fail
      clear cT0w10 cT1w10 cT2w10 czTw10 cVB0w10 czVBw10
      refine (someT_any ⟨(gm : Int), (gn : Int), (gs : Int), rs⟩ lps A LA c lc w5.heap.size w1.heap.size w9.heap.size (fun b => b < w1.heap.size) (fun b => b < w5.heap.size) (fun q hq => by have h1 := (V.out.rules q hq); have h2 := HL.out.1; (try dsimp only at h1 ⊢); omega) (by have := V.out.len; (try dsimp only at this ⊢); omega) (fun b => b < w3.heap.size) tr TA tc w10 ⟨_, HT.out.1⟩ HI.out.1 HI.out.2.1 HI.out.2.2.1 HI.out.2.2.2 ETw10.out ⟨by rw [HL.out.1]; exact HLBw10.out, HGw10.out, HVBw10.out, ELw10.out, EAw10.out⟩).mono ?_
      rintro e w11 ⟨rfl, hbw11⟩
      have HBw11 := Lib.hid (bthen HBw10.out hbw11 HBw10.out.size)
      have zw10w11 : w10.heap.size ≤ w11.heap.size := hbw11.size
      have HGw11 := Lib.hid (HGw10.out.below hbw11 HGw10.out.lt)
      have HTw11 := Lib.hid (HTw10.out.below hbw11 HTw10.out.lt)
      have HLBw11 := Lib.hid (HLBw10.out.below hbw11 HLBw10.out.lt)
      have HVBw11 := Lib.hid (HVBw10.out.below hbw11 HVBw10.out.lt)
      have Eraww11 := Lib.hid (Eraww10.out.below hbw11)
      have Echw11 := Lib.hid (Echw10.out.below hbw11)
      have Etabw11 := Lib.hid (Etabw10.out.below hbw11 Etabw10.out.1)
      have EAw11 := Lib.hid (EAw10.out.below hbw11)
      have ETw11 := Lib.hid (ETw10.out.below hbw11)
      have ELw11 := Lib.hid (ELw10.out.below hbw11)
      have EYw11 := Lib.hid (EYw10.out.below hbw11)
      clear HGw10 HTw10 HLBw10 HVBw10 Eraww10 Echw10 Etabw10 EAw10 ETw10 ELw10 EYw10
      clear hbw11
      cases hs : someT ⟨(gm : Int), (gn : Int), (gs : Int), rs⟩ lps tr
      · have cLB0w11 : w11.cell? ⟨w5.heap.size, 0, none⟩ = some (.slice LA gn lc) := HLBw11.out.cell 0
        have czLBw11 : w5.heap.size < w11.heap.size := HLBw11.out.lt
        go_wp2_with fail
        clear cLB0w11 czLBw11
        refine (containsBool_any LA gn lc lps true (fun b => b < w5.heap.size) w11 HL.out.1.symm (by have := HL.out.1; have := V.out.n10; (try dsimp only at *); omega) ELw11.out).mono ?_
        rintro e w12 ⟨rfl, rfl⟩
        have hM2 := HM.out.2
        by_cases hin : true ∈ lps
        · rw [decide_eq_true hin]
          go_wp2
          go_ret
          exact ⟨rfl, HBw11.out⟩
        · have hk1 : (k != -1) = true := by simpa using hM2 hin
          rw [decide_eq_false hin]
          go_wp2
          go_ret
          exact ⟨rfl, HBw11.out⟩
      · have hk1 : k = -1 := HM.out.1 hs
        subst hk1
        go_wp2
        go_ret
        exact ⟨rfl, HBw11.out⟩

theorem cycleMany_row (raw ch : List Int) (v0 v1 : Value) (W : World) (h0 : Vl W (OldS W) raw v0) (h1 : Vl W (OldS W) ch v1) (hT : Tab32 W) :
    Calls Tryd.prog 5 #[v0, v1] W fun e W' => e = .returned (.bool true) ∧ Below W.heap.size W W' := by
  obtain ⟨A0, c0, rfl, p0, q0, e0⟩ := h0.slice
  obtain ⟨A1, c1, rfl, p1, q1, e1⟩ := h1.slice
  exact cycleMany_any raw A0 c0 ch A1 c1 (OldS W) W p0 q0 e0 p1 q1 e1 (fun b h => h) hT
end Go.Proofs.YtjdojogjogenkaaDoor
