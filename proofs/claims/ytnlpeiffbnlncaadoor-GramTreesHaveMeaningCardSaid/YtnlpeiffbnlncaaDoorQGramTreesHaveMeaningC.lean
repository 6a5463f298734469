/- The walk of the law GramTreesHaveMeaning: the word of a valid tree of Start has at least one tree. -/
import Derived.Test.YtnlpeiffbnlncaaDoorQMeanCount
import Derived.Test.YtnlpeiffbnlncaaDoorQCntL
import Derived.Test.YtnlpeiffbnlncaaDoorQGrammar
import Derived.Test.YtnlpeiffbnlncaaDoorQApartP
import Derived.Test.YtnlpeiffbnlncaaDoorQMakeTreeTop
import Derived.Test.YtnlpeiffbnlncaaDoorQYield
import Derived.Test.YtnlpeiffbnlncaaDoorQWorks
import Derived.Test.YtnlpeiffbnlncaaDoorQGTree
import Derived.Test.YtnlpeiffbnlncaaDoorQp2
import Derived.Test.YtnlpeiffbnlncaaDoorQp1
namespace Go.Proofs.YtnlpeiffbnlncaaDoor
open Go.RowKit
set_option linter.unusedVariables false

set_option maxRecDepth 100000 in
set_option maxHeartbeats 4000000 in
theorem gramTreesHaveMeaning_any (raw : List Int) (Araw : Option Addr) (craw : Nat) (ch : List Int) (Ach : Option Addr) (cch : Nat) (S0 : Nat → Prop) (w : World) (hraw : raw.length ≤ craw) (mraw : craw ≤ 9223372036854775807) (Eraw : Els w S0 raw Araw) (hch : ch.length ≤ cch) (mch : cch ≤ 9223372036854775807) (Ech : Els w S0 ch Ach) (hS0 : ∀ b, S0 b → b < w.heap.size) (hTab : Tab32 w) :
    Calls Tryd.prog 4 #[.slice Araw raw.length craw, .slice Ach ch.length cch] w fun e w' => e = .returned (.bool true) ∧ Below w.heap.size w w' := by
  have Eraww := Lib.hid Eraw
  have Draw := Lib.hid (And.intro hraw mraw)
  have Echw := Lib.hid Ech
  have Dch := Lib.hid (And.intro hch mch)
  have HS0 := Lib.hid hS0
  have HBw : Hid (Below w.heap.size w w) := Lib.hid (Below.refl _ _)
  clear hS0 Eraw hraw mraw Ech hch mch
  have Etabw := Lib.hid hTab
  clear hTab
  go_enter Tryd.func4, Tryd.ntmps4
  go_wp2_with fail
  refine (grammar_any Araw craw raw S0 w Draw.out.1 Draw.out.2 Eraww.out (fun b hb => Nat.lt_of_lt_of_le (HS0.out b hb) HBw.out.size)).mono ?_
  rintro e w1 ⟨g, v, hmade, rfl, hvl, hbw1⟩
  obtain ⟨s, rfl, _, _, _, hs⟩ := hvl.gram
  obtain ⟨A, c, rfl, hlc, hc, hA⟩ := hs.slice
  have hck := made_check hmade
  have hvg := validG_of hck
  obtain ⟨t, nn, ss, rs⟩ := g
  dsimp only at *
  obtain ⟨gn, hn⟩ : ∃ n : Nat, nn = (n : Int) := ⟨nn.toNat, by have := hvg.n1; dsimp only at this; omega⟩
  obtain ⟨gm, hm⟩ : ∃ m : Nat, t = (m : Int) := ⟨t.toNat, by have := hvg.t1; dsimp only at this; omega⟩
  obtain ⟨gs, hs0⟩ : ∃ y : Nat, ss = (y : Int) := ⟨ss.toNat, by have := hvg.s0; dsimp only at this; omega⟩
  subst hn; subst hm; subst hs0
  have HMade := Lib.hid hmade
  have C := Lib.hid hck
  have V := Lib.hid hvg
  have Q := Lib.hid (And.intro hlc hc)
  have EX := Lib.hid (hA.keep (S' := fun b => b < w1.heap.size) (fun _ _ _ => rfl) (fun b hb => hb.2))
  have HBw1 := Lib.hid (bthen HBw.out hbw1 HBw.out.size)
  have zww1 : w.heap.size ≤ w1.heap.size := hbw1.size
  have Eraww1 := Lib.hid (Eraww.out.below hbw1)
  have Echw1 := Lib.hid (Echw.out.below hbw1)
  have Etabw1 := Lib.hid (Etabw.out.below hbw1 Etabw.out.1)
  clear hbw1 hvl hs hA hmade hck hvg hlc hc
  have EAw1 := EX
  clear EX
  obtain ⟨w2, hww2⟩ : ∃ wq : World, wq = w1.alloc (.cells #[.int .i64 (gm : Int), .int .i64 (gn : Int), .int .i64 (gs : Int), .slice A rs.length c] 25) := ⟨_, rfl⟩
  have HWw2 := Lib.hid hww2
  have hbw2 : Below w1.heap.size w1 w2 := by rw [hww2]; exact (Below.refl _ _).alloc (Nat.le_refl _) _
  have HGw2 : Hid (Blk' w2 w1.heap.size 25 #[.int .i64 (gm : Int), .int .i64 (gn : Int), .int .i64 (gs : Int), .slice A rs.length c]) := Lib.hid (by rw [hww2]; exact Blk'.new _ _ _)
  have Zw2 : Hid (w2.heap.size = w1.heap.size + 1) := Lib.hid (by rw [hww2]; simp)
  have HBw2 := Lib.hid (bthen HBw1.out hbw2 HBw1.out.size)
  have zw1w2 : w1.heap.size ≤ w2.heap.size := hbw2.size
  have Eraww2 := Lib.hid (Eraww1.out.below hbw2)
  have Echw2 := Lib.hid (Echw1.out.below hbw2)
  have Etabw2 := Lib.hid (Etabw1.out.below hbw2 Etabw1.out.1)
  have EAw2 := Lib.hid (EAw1.out.below hbw2)
  clear Eraww1 Echw1 Etabw1 EAw1
  clear hww2 hbw2
  have cG0w2 : w2.cell? ⟨w1.heap.size, 0, none⟩ = some (.int .i64 (gm : Int)) := HGw2.out.cell 0
  have cG1w2 : w2.cell? ⟨w1.heap.size, 1, none⟩ = some (.int .i64 (gn : Int)) := HGw2.out.cell 1
  have cG2w2 : w2.cell? ⟨w1.heap.size, 2, none⟩ = some (.int .i64 (gs : Int)) := HGw2.out.cell 2
  have cG3w2 : w2.cell? ⟨w1.heap.size, 3, none⟩ = some (.slice A rs.length c) := HGw2.out.cell 3
  have czGw2 : w1.heap.size < w2.heap.size := HGw2.out.lt
  go_wp2_with fail
  rw [← HWw2.out]
  clear cG0w2 cG1w2 cG2w2 cG3w2 czGw2
  refine (makeTreeZ_any ⟨(gm : Int), (gn : Int), (gs : Int), rs⟩ A c ch Ach cch (fun b => b < w1.heap.size) S0 w2 V.out.i64 Q.out.1 Q.out.2 (by have := V.out.len; (try dsimp only at this ⊢); omega) (fun q hq => by have := (V.out.rules q hq).2.2.1; omega) EAw2.out (fun b hb => by have h0 : b < w1.heap.size := hb; omega) Dch.out.1 Dch.out.2 Echw2.out (fun b hb => Nat.lt_of_lt_of_le (HS0.out b hb) HBw2.out.size)).mono ?_
  rintro e w3 ⟨v, ok, rfl, hbw3, ⟨ta, tb, TA, tn, tc, rfl⟩, hok, hno⟩
  have HBw3 := Lib.hid (bthen HBw2.out hbw3 HBw2.out.size)
  have zw2w3 : w2.heap.size ≤ w3.heap.size := hbw3.size
  have HGw3 := Lib.hid (HGw2.out.below hbw3 HGw2.out.lt)
  have Eraww3 := Lib.hid (Eraww2.out.below hbw3)
  have Echw3 := Lib.hid (Echw2.out.below hbw3)
  have Etabw3 := Lib.hid (Etabw2.out.below hbw3 Etabw2.out.1)
  have EAw3 := Lib.hid (EAw2.out.below hbw3)
  clear HGw2 Eraww2 Echw2 Etabw2 EAw2
  clear hbw3
  cases ok
  · have e := hno rfl
    clear hok hno
    injection e with e
    simp at e
    obtain ⟨rfl, rfl, rfl, rfl, rfl⟩ := e
    obtain ⟨w4, hww4⟩ : ∃ wq : World, wq = w3.alloc (.cells #[.int .i64 0, .int .i64 0, .slice none 0 0] 39) := ⟨_, rfl⟩
    have HWw4 := Lib.hid hww4
    have hbw4 : Below w3.heap.size w3 w4 := by rw [hww4]; exact (Below.refl _ _).alloc (Nat.le_refl _) _
    have HTw4 : Hid (Blk' w4 w3.heap.size 39 #[.int .i64 0, .int .i64 0, .slice none 0 0]) := Lib.hid (by rw [hww4]; exact Blk'.new _ _ _)
    have Zw4 : Hid (w4.heap.size = w3.heap.size + 1) := Lib.hid (by rw [hww4]; simp)
    have HBw4 := Lib.hid (bthen HBw3.out hbw4 HBw3.out.size)
    have zw3w4 : w3.heap.size ≤ w4.heap.size := hbw4.size
    have HGw4 := Lib.hid (HGw3.out.below hbw4 HGw3.out.lt)
    have Eraww4 := Lib.hid (Eraww3.out.below hbw4)
    have Echw4 := Lib.hid (Echw3.out.below hbw4)
    have Etabw4 := Lib.hid (Etabw3.out.below hbw4 Etabw3.out.1)
    have EAw4 := Lib.hid (EAw3.out.below hbw4)
    clear HGw3 Eraww3 Echw3 Etabw3 EAw3
    clear hww4 hbw4
    go_upto_region 3 with (fail)
    rw [← HWw4.out]
    have cT0w4 : w4.cell? ⟨w3.heap.size, 0, none⟩ = some (.int .i64 0) := HTw4.out.cell 0
    have cT1w4 : w4.cell? ⟨w3.heap.size, 1, none⟩ = some (.int .i64 0) := HTw4.out.cell 1
    have cT2w4 : w4.cell? ⟨w3.heap.size, 2, none⟩ = some (.slice none 0 0) := HTw4.out.cell 2
    have czTw4 : w3.heap.size < w4.heap.size := HTw4.out.lt
    go_wp2_with fail
    clear cT0w4 cT1w4 cT2w4 czTw4
    refine (yield_any ⟨0, 0, []⟩ none 0 (fun _ => False) w4 (fun b h => h.elim) ⟨by decide, by decide⟩ ⟨by decide, by decide⟩ (Nat.le_refl _) (by omega) (fun h => absurd rfl h) (by simp [yieldT, yields])).mono ?_
    rintro e w5 ⟨v, rfl, hv, hbw5⟩
    obtain ⟨YA, yc, rfl, _⟩ := hv.form
    have HBw5 := Lib.hid (bthen HBw4.out hbw5 HBw4.out.size)
    have zw4w5 : w4.heap.size ≤ w5.heap.size := hbw5.size
    have HGw5 := Lib.hid (HGw4.out.below hbw5 HGw4.out.lt)
    have HTw5 := Lib.hid (HTw4.out.below hbw5 HTw4.out.lt)
    have Eraww5 := Lib.hid (Eraww4.out.below hbw5)
    have Echw5 := Lib.hid (Echw4.out.below hbw5)
    have Etabw5 := Lib.hid (Etabw4.out.below hbw5 Etabw4.out.1)
    have EAw5 := Lib.hid (EAw4.out.below hbw5)
    clear HGw4 HTw4 Eraww4 Echw4 Etabw4 EAw4
    clear hbw5 hv
    go_wp2_with fail
    refine (works_any _).mono ?_
    rintro e w6 ⟨rfl, hbw6⟩
    have HBw6 := Lib.hid (bthen HBw5.out hbw6 HBw5.out.size)
    have zw5w6 : w5.heap.size ≤ w6.heap.size := hbw6.size
    have HGw6 := Lib.hid (HGw5.out.below hbw6 HGw5.out.lt)
    have HTw6 := Lib.hid (HTw5.out.below hbw6 HTw5.out.lt)
    have Eraww6 := Lib.hid (Eraww5.out.below hbw6)
    have Echw6 := Lib.hid (Echw5.out.below hbw6)
    have Etabw6 := Lib.hid (Etabw5.out.below hbw6 Etabw5.out.1)
    have EAw6 := Lib.hid (EAw5.out.below hbw6)
    clear HGw5 HTw5 Eraww5 Echw5 Etabw5 EAw5
    clear hbw6
    go_wp2
    go_ret
    exact ⟨rfl, HBw6.out⟩
  · obtain ⟨tr, hvt, hvl, hy60, hn60⟩ := hok rfl
    clear hno hok
    obtain ⟨ts, he, hra, hta, hts⟩ := hvl.tree
    injection he with he
    simp at he
    obtain ⟨rfl, rfl, rfl⟩ := he
    obtain ⟨rfl, htc1, htc2, htE⟩ := hts.els
    have HT := Lib.hid (And.intro hvt (And.intro hy60 hn60))
    have HI := Lib.hid (And.intro hra (And.intro hta (And.intro htc1 htc2)))
    have ETw3 := Lib.hid (htE.keep (S' := fun b => b < w3.heap.size) (fun _ _ _ => rfl) (fun b hb => hb.2))
    clear hvt hvl hy60 hn60 hts hra hta htc1 htc2 htE
    obtain ⟨w4, hww4⟩ : ∃ wq : World, wq = w3.alloc (.cells #[.int .i64 tr.rule, .int .i64 tr.term, .slice TA tr.kids.length tc] 39) := ⟨_, rfl⟩
    have HWw4 := Lib.hid hww4
    have hbw4 : Below w3.heap.size w3 w4 := by rw [hww4]; exact (Below.refl _ _).alloc (Nat.le_refl _) _
    have HTw4 : Hid (Blk' w4 w3.heap.size 39 #[.int .i64 tr.rule, .int .i64 tr.term, .slice TA tr.kids.length tc]) := Lib.hid (by rw [hww4]; exact Blk'.new _ _ _)
    have Zw4 : Hid (w4.heap.size = w3.heap.size + 1) := Lib.hid (by rw [hww4]; simp)
    have HBw4 := Lib.hid (bthen HBw3.out hbw4 HBw3.out.size)
    have zw3w4 : w3.heap.size ≤ w4.heap.size := hbw4.size
    have HGw4 := Lib.hid (HGw3.out.below hbw4 HGw3.out.lt)
    have Eraww4 := Lib.hid (Eraww3.out.below hbw4)
    have Echw4 := Lib.hid (Echw3.out.below hbw4)
    have Etabw4 := Lib.hid (Etabw3.out.below hbw4 Etabw3.out.1)
    have EAw4 := Lib.hid (EAw3.out.below hbw4)
    have ETw4 := Lib.hid (ETw3.out.below hbw4)
    clear HGw3 Eraww3 Echw3 Etabw3 EAw3 ETw3
    clear hww4 hbw4
    go_upto_region 3 with (fail)
    rw [← HWw4.out]
    have cT0w4 : w4.cell? ⟨w3.heap.size, 0, none⟩ = some (.int .i64 tr.rule) := HTw4.out.cell 0
    have cT1w4 : w4.cell? ⟨w3.heap.size, 1, none⟩ = some (.int .i64 tr.term) := HTw4.out.cell 1
    have cT2w4 : w4.cell? ⟨w3.heap.size, 2, none⟩ = some (.slice TA tr.kids.length tc) := HTw4.out.cell 2
    have czTw4 : w3.heap.size < w4.heap.size := HTw4.out.lt
    go_wp2_with fail
    clear cT0w4 cT1w4 cT2w4 czTw4
    refine (yield_any tr TA tc (fun b => b < w3.heap.size) w4 (fun b h => by have h0 : b < w3.heap.size := h; omega) HI.out.1 HI.out.2.1 HI.out.2.2.1 HI.out.2.2.2 ETw4.out (by have := HT.out.2.1; omega)).mono ?_
    rintro e w5 ⟨v, rfl, hv, hbw5⟩
    obtain ⟨YA, yc, rfl, hy1, hy2, _⟩ := hv.form
    have HY := Lib.hid (And.intro hy1 hy2)
    have EYx := Lib.hid (hv.vl.els.2.2.2.keep (S' := fun b => b < w5.heap.size) (fun _ _ _ => rfl) (fun b hb => hb.2))
    have HBw5 := Lib.hid (bthen HBw4.out hbw5 HBw4.out.size)
    have zw4w5 : w4.heap.size ≤ w5.heap.size := hbw5.size
    have HGw5 := Lib.hid (HGw4.out.below hbw5 HGw4.out.lt)
    have HTw5 := Lib.hid (HTw4.out.below hbw5 HTw4.out.lt)
    have Eraww5 := Lib.hid (Eraww4.out.below hbw5)
    have Echw5 := Lib.hid (Echw4.out.below hbw5)
    have Etabw5 := Lib.hid (Etabw4.out.below hbw5 Etabw4.out.1)
    have EAw5 := Lib.hid (EAw4.out.below hbw5)
    have ETw5 := Lib.hid (ETw4.out.below hbw5)
    clear HGw4 HTw4 Eraww4 Echw4 Etabw4 EAw4 ETw4
    clear hbw5 hv hy1 hy2
    have EYw5 := EYx
    clear EYx
    go_wp2_with fail
    refine (works_any _).mono ?_
    rintro e w6 ⟨rfl, hbw6⟩
    have HBw6 := Lib.hid (bthen HBw5.out hbw6 HBw5.out.size)
    have zw5w6 : w5.heap.size ≤ w6.heap.size := hbw6.size
    have HGw6 := Lib.hid (HGw5.out.below hbw6 HGw5.out.lt)
    have HTw6 := Lib.hid (HTw5.out.below hbw6 HTw5.out.lt)
    have Eraww6 := Lib.hid (Eraww5.out.below hbw6)
    have Echw6 := Lib.hid (Echw5.out.below hbw6)
    have Etabw6 := Lib.hid (Etabw5.out.below hbw6 Etabw5.out.1)
    have EAw6 := Lib.hid (EAw5.out.below hbw6)
    have ETw6 := Lib.hid (ETw5.out.below hbw6)
    have EYw6 := Lib.hid (EYw5.out.below hbw6)
    clear HGw5 HTw5 Eraww5 Echw5 Etabw5 EAw5 ETw5 EYw5
    clear hbw6
    have cG0w6 : w6.cell? ⟨w1.heap.size, 0, none⟩ = some (.int .i64 (gm : Int)) := HGw6.out.cell 0
    have cG1w6 : w6.cell? ⟨w1.heap.size, 1, none⟩ = some (.int .i64 (gn : Int)) := HGw6.out.cell 1
    have cG2w6 : w6.cell? ⟨w1.heap.size, 2, none⟩ = some (.int .i64 (gs : Int)) := HGw6.out.cell 2
    have cG3w6 : w6.cell? ⟨w1.heap.size, 3, none⟩ = some (.slice A rs.length c) := HGw6.out.cell 3
    have czGw6 : w1.heap.size < w6.heap.size := HGw6.out.lt
    have cT0w6 : w6.cell? ⟨w3.heap.size, 0, none⟩ = some (.int .i64 tr.rule) := HTw6.out.cell 0
    have cT1w6 : w6.cell? ⟨w3.heap.size, 1, none⟩ = some (.int .i64 tr.term) := HTw6.out.cell 1
    have cT2w6 : w6.cell? ⟨w3.heap.size, 2, none⟩ = some (.slice TA tr.kids.length tc) := HTw6.out.cell 2
    have czTw6 : w3.heap.size < w6.heap.size := HTw6.out.lt
    have h0 : treeE ⟨(gm : Int), (gn : Int), (gs : Int), rs⟩ tr = 0 := treeE_vt (terms_of V.out) HT.out.1 (by have := HT.out.2.2; omega)
    go_wp2_with fail
    clear cG0w6 cG1w6 cG2w6 cG3w6 czGw6 cT0w6 cT1w6 cT2w6 czTw6
    refine (gtree_any ⟨(gm : Int), (gn : Int), (gs : Int), rs⟩ A c (fun b => b < w1.heap.size) (fun b => b < w3.heap.size) tr TA tc w6 (by have := V.out.len; (try dsimp only at this ⊢); omega) (fun q hq => by have := (V.out.rules q hq).2.2.1; omega) EAw6.out (fun b hb => by have h0 : b < w1.heap.size := hb; omega) (fun b hb => by have h0 : b < w3.heap.size := hb; omega) HI.out.1 HI.out.2.1 HI.out.2.2.1 HI.out.2.2.2 ETw6.out).mono ?_
    rintro e w7 ⟨rfl, hbw7⟩
    have HBw7 := Lib.hid (bthen HBw6.out hbw7 HBw6.out.size)
    have zw6w7 : w6.heap.size ≤ w7.heap.size := hbw7.size
    have HGw7 := Lib.hid (HGw6.out.below hbw7 HGw6.out.lt)
    have HTw7 := Lib.hid (HTw6.out.below hbw7 HTw6.out.lt)
    have Eraww7 := Lib.hid (Eraww6.out.below hbw7)
    have Echw7 := Lib.hid (Echw6.out.below hbw7)
    have Etabw7 := Lib.hid (Etabw6.out.below hbw7 Etabw6.out.1)
    have EAw7 := Lib.hid (EAw6.out.below hbw7)
    have ETw7 := Lib.hid (ETw6.out.below hbw7)
    have EYw7 := Lib.hid (EYw6.out.below hbw7)
    clear HGw6 HTw6 Eraww6 Echw6 Etabw6 EAw6 ETw6 EYw6
    clear hbw7
    rw [h0]
    clear h0
    by_cases hl : 12 < (yieldT tr).length
    · have hl' : (12 : Int) < ((yieldT tr).length : Int) := by omega
      have cG0w7 : w7.cell? ⟨w1.heap.size, 0, none⟩ = some (.int .i64 (gm : Int)) := HGw7.out.cell 0
      have cG1w7 : w7.cell? ⟨w1.heap.size, 1, none⟩ = some (.int .i64 (gn : Int)) := HGw7.out.cell 1
      have cG2w7 : w7.cell? ⟨w1.heap.size, 2, none⟩ = some (.int .i64 (gs : Int)) := HGw7.out.cell 2
      have cG3w7 : w7.cell? ⟨w1.heap.size, 3, none⟩ = some (.slice A rs.length c) := HGw7.out.cell 3
      have czGw7 : w1.heap.size < w7.heap.size := HGw7.out.lt
      go_wp2
      go_ret
      exact ⟨rfl, HBw7.out⟩
    · have hl' : ¬ (12 : Int) < ((yieldT tr).length : Int) := by omega
      have cG0w7 : w7.cell? ⟨w1.heap.size, 0, none⟩ = some (.int .i64 (gm : Int)) := HGw7.out.cell 0
      have cG1w7 : w7.cell? ⟨w1.heap.size, 1, none⟩ = some (.int .i64 (gn : Int)) := HGw7.out.cell 1
      have cG2w7 : w7.cell? ⟨w1.heap.size, 2, none⟩ = some (.int .i64 (gs : Int)) := HGw7.out.cell 2
      have cG3w7 : w7.cell? ⟨w1.heap.size, 3, none⟩ = some (.slice A rs.length c) := HGw7.out.cell 3
      have czGw7 : w1.heap.size < w7.heap.size := HGw7.out.lt
      go_wp2_with fail
      clear cG0w7 cG1w7 cG2w7 cG3w7 czGw7
      refine (meanCount_any ⟨(gm : Int), (gn : Int), (gs : Int), rs⟩ (yieldT tr) A YA c yc (fun b => b < w1.heap.size) (fun b => b < w5.heap.size) w7 C.out Q.out.1 Q.out.2 EAw7.out (fun b hb => by have h0 : b < w1.heap.size := hb; omega) EYw7.out (fun b hb => by have h0 : b < w5.heap.size := hb; omega) (word_rg V.out HT.out.1 (by omega)) Etabw7.out).mono ?_
      rintro e w8 ⟨k, rfl, hk, _, hbw8⟩
      have hk0 : k ≠ 0 := cnt_pos hk ⟨HT.out.1, rfl⟩
      have hk1 : (k != 0) = true := by simpa using hk0
      have HBw8 := Lib.hid (bthen HBw7.out hbw8 HBw7.out.size)
      have zw7w8 : w7.heap.size ≤ w8.heap.size := hbw8.size
      have HGw8 := Lib.hid (HGw7.out.below hbw8 HGw7.out.lt)
      have HTw8 := Lib.hid (HTw7.out.below hbw8 HTw7.out.lt)
      have Eraww8 := Lib.hid (Eraww7.out.below hbw8)
      have Echw8 := Lib.hid (Echw7.out.below hbw8)
      have Etabw8 := Lib.hid (Etabw7.out.below hbw8 Etabw7.out.1)
      have EAw8 := Lib.hid (EAw7.out.below hbw8)
      have ETw8 := Lib.hid (ETw7.out.below hbw8)
      have EYw8 := Lib.hid (EYw7.out.below hbw8)
      clear HGw7 HTw7 Eraww7 Echw7 Etabw7 EAw7 ETw7 EYw7
      clear hbw8 hk
      go_wp2
      go_ret
      exact ⟨rfl, HBw8.out⟩

theorem gramTreesHaveMeaning_row (raw ch : List Int) (v0 v1 : Value) (W : World) (h0 : Vl W (OldS W) raw v0) (h1 : Vl W (OldS W) ch v1) (hT : Tab32 W) :
    Calls Tryd.prog 4 #[v0, v1] W fun e W' => e = .returned (.bool true) ∧ Below W.heap.size W W' := by
  obtain ⟨A0, c0, rfl, p0, q0, e0⟩ := h0.slice
  obtain ⟨A1, c1, rfl, p1, q1, e1⟩ := h1.slice
  exact gramTreesHaveMeaning_any raw A0 c0 ch A1 c1 (OldS W) W p0 q0 e0 p1 q1 e1 (fun b h => h) hT
end Go.Proofs.YtnlpeiffbnlncaaDoor
