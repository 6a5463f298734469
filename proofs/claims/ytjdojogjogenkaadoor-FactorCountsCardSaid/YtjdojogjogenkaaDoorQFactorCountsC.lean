/- The walk of the law FactorCounts: every word has as many trees in the factored grammar. -/
import Derived.Test.YtjdojogjogenkaaDoorQMeanCount
import Derived.Test.YtjdojogjogenkaaDoorQFacCntP
import Derived.Test.YtjdojogjogenkaaDoorQw2
import Derived.Test.YtjdojogjogenkaaDoorQFactors
import Derived.Test.YtjdojogjogenkaaDoorQGrammar
import Derived.Test.YtjdojogjogenkaaDoorQApartP
import Derived.Test.YtjdojogjogenkaaDoorQp1
namespace Go.Proofs.YtjdojogjogenkaaDoor
open Go.RowKit
set_option linter.unusedVariables false
set_option maxRecDepth 100000 in
set_option maxHeartbeats 4000000 in
theorem factorCounts_any (raw : List Int) (Araw : Option Addr) (craw : Nat) (word : List Int) (Aword : Option Addr) (cword : Nat) (S0 : Nat → Prop) (w : World) (hraw : raw.length ≤ craw) (mraw : craw ≤ 9223372036854775807) (Eraw : Els w S0 raw Araw) (hword : word.length ≤ cword) (mword : cword ≤ 9223372036854775807) (Eword : Els w S0 word Aword) (hS0 : ∀ b, S0 b → b < w.heap.size) (hTab : Tab32 w) :
  Calls Tryd.prog 4 #[.slice Araw raw.length craw, .slice Aword word.length cword] w fun e w' => e = .returned (.bool true) ∧ Below w.heap.size w w' := by
 have Eraww := Lib.hid Eraw
 have Draw := Lib.hid (And.intro hraw mraw)
 have Ewordw := Lib.hid Eword
 have Dword := Lib.hid (And.intro hword mword)
 have HS0 := Lib.hid hS0
 have HBw : Hid (Below w.heap.size w w) := Lib.hid (Below.refl _ _)
 clear hS0 Eraw hraw mraw Eword hword mword
 have Etabw := Lib.hid hTab
 clear hTab
 go_enter Tryd.func4, Tryd.ntmps4
 go_wp2_with fail
 refine (grammar_any Araw craw raw S0 w Draw.out.1 Draw.out.2 Eraww.out (fun b hb => Nat.lt_of_lt_of_le (HS0.out b hb) HBw.out.size)).mono ?_
 rintro e w1 ⟨g, v, hmade, rfl, hvl, hbw1⟩
 obtain ⟨s, rfl, _, _, _, hs⟩ := hvl.gram
 obtain ⟨A, c, rfl, hlc, hc, hA⟩ := hs.slice
 have hck := made_check hmade
 have hvg := validG_of hck
 obtain ⟨t, nn, ss, rs⟩ := g
 dsimp only at *
 obtain ⟨gn, hn⟩ : ∃ n : Nat, nn = (n : Int) := ⟨nn.toNat, by have := hvg.n1; dsimp only at this; omega⟩
 obtain ⟨gm, hm⟩ : ∃ m : Nat, t = (m : Int) := ⟨t.toNat, by have := hvg.t1; dsimp only at this; omega⟩
 obtain ⟨gs, hs0⟩ : ∃ y : Nat, ss = (y : Int) := ⟨ss.toNat, by have := hvg.s0; dsimp only at this; omega⟩
 subst hn; subst hm; subst hs0
 have HMade := Lib.hid hmade
 have C := Lib.hid hck
 have V := Lib.hid hvg
 have Q := Lib.hid (And.intro hlc hc)
 have EX := Lib.hid (hA.keep (S' := fun b => b < w1.heap.size) (fun _ _ _ => rfl) (fun b hb => hb.2))
 have HBw1 := Lib.hid (bthen HBw.out hbw1 HBw.out.size)
 have zww1 : w.heap.size ≤ w1.heap.size := hbw1.size
 have Eraww1 := Lib.hid (Eraww.out.below hbw1)
 have Ewordw1 := Lib.hid (Ewordw.out.below hbw1)
 have Etabw1 := Lib.hid (Etabw.out.below hbw1 Etabw.out.1)
 clear hbw1 hvl hs hA hmade hck hvg hlc hc
 have EAw1 := EX
 clear EX
 obtain ⟨w2, hww2⟩ : ∃ wq : World, wq = w1.alloc (.cells #[.int .i64 (gm : Int), .int .i64 (gn : Int), .int .i64 (gs : Int), .slice A rs.length c] 24) := ⟨_, rfl⟩
 have HWw2 := Lib.hid hww2
 have hbw2 : Below w1.heap.size w1 w2 := by rw [hww2]; exact (Below.refl _ _).alloc (Nat.le_refl _) _
 have HGw2 : Hid (Blk' w2 w1.heap.size 24 #[.int .i64 (gm : Int), .int .i64 (gn : Int), .int .i64 (gs : Int), .slice A rs.length c]) := Lib.hid (by rw [hww2]; exact Blk'.new _ _ _)
 have Zw2 : Hid (w2.heap.size = w1.heap.size + 1) := Lib.hid (by rw [hww2]; simp)
 have HBw2 := Lib.hid (bthen HBw1.out hbw2 HBw1.out.size)
 have zw1w2 : w1.heap.size ≤ w2.heap.size := hbw2.size
 have Eraww2 := Lib.hid (Eraww1.out.below hbw2)
 have Ewordw2 := Lib.hid (Ewordw1.out.below hbw2)
 have Etabw2 := Lib.hid (Etabw1.out.below hbw2 Etabw1.out.1)
 have EAw2 := Lib.hid (EAw1.out.below hbw2)
 clear Eraww1 Ewordw1 Etabw1 EAw1
 clear hww2 hbw2
 have cG0w2 : w2.cell? ⟨w1.heap.size, 0, none⟩ = some (.int .i64 (gm : Int)) := HGw2.out.cell 0
 have cG1w2 : w2.cell? ⟨w1.heap.size, 1, none⟩ = some (.int .i64 (gn : Int)) := HGw2.out.cell 1
 have cG2w2 : w2.cell? ⟨w1.heap.size, 2, none⟩ = some (.int .i64 (gs : Int)) := HGw2.out.cell 2
 have cG3w2 : w2.cell? ⟨w1.heap.size, 3, none⟩ = some (.slice A rs.length c) := HGw2.out.cell 3
 have czGw2 : w1.heap.size < w2.heap.size := HGw2.out.lt
 go_wp2_with fail
 rw [← HWw2.out]
 clear cG0w2 cG1w2 cG2w2 cG3w2 czGw2
 refine (mkword_any (gm : Int) 7 word Aword cword S0 w2 (by have := V.out.t1; (try dsimp only at this); omega) (by have := V.out.t8; (try dsimp only at this); omega) (by omega) Dword.out.1 Dword.out.2 Ewordw2.out (fun b hb => Nat.lt_of_lt_of_le (HS0.out b hb) HBw2.out.size)).mono ?_
 rintro e w3 ⟨v, ws, rfl, hwl, hwr, hwo, hbw3⟩
 obtain ⟨WA, wc, rfl, hw1, hw2, _⟩ := hwo.form
 have HW := Lib.hid (And.intro hw1 hw2)
 have HWr := Lib.hid (show wordE (gm : Int) ws 12 = 0 from word_rg2 (by omega) hwr)
 have EYx := Lib.hid (hwo.vl.els.2.2.2.keep (S' := fun b => b < w3.heap.size) (fun _ _ _ => rfl) (fun b hb => hb.2))
 have HBw3 := Lib.hid (bthen HBw2.out hbw3 HBw2.out.size)
 have zw2w3 : w2.heap.size ≤ w3.heap.size := hbw3.size
 have HGw3 := Lib.hid (HGw2.out.below hbw3 HGw2.out.lt)
 have Eraww3 := Lib.hid (Eraww2.out.below hbw3)
 have Ewordw3 := Lib.hid (Ewordw2.out.below hbw3)
 have Etabw3 := Lib.hid (Etabw2.out.below hbw3 Etabw2.out.1)
 have EAw3 := Lib.hid (EAw2.out.below hbw3)
 clear HGw2 Eraww2 Ewordw2 Etabw2 EAw2
 clear hbw3 hwl hwr hwo hw1 hw2
 have EYw3 := EYx
 clear EYx
 have cG0w3 : w3.cell? ⟨w1.heap.size, 0, none⟩ = some (.int .i64 (gm : Int)) := HGw3.out.cell 0
 have cG1w3 : w3.cell? ⟨w1.heap.size, 1, none⟩ = some (.int .i64 (gn : Int)) := HGw3.out.cell 1
 have cG2w3 : w3.cell? ⟨w1.heap.size, 2, none⟩ = some (.int .i64 (gs : Int)) := HGw3.out.cell 2
 have cG3w3 : w3.cell? ⟨w1.heap.size, 3, none⟩ = some (.slice A rs.length c) := HGw3.out.cell 3
 have czGw3 : w1.heap.size < w3.heap.size := HGw3.out.lt
 go_wp2_with fail
 clear cG0w3 cG1w3 cG2w3 cG3w3 czGw3
 refine (facPub_any ⟨(gm : Int), (gn : Int), (gs : Int), rs⟩ gn A c (fun b => b < w1.heap.size) w3 rfl C.out Q.out.1 Q.out.2 EAw3.out (fun b hb => by have h0 : b < w1.heap.size := hb; omega)).mono ?_
 rintro e w4 (⟨k, hbad, rfl, hbw4⟩ | ⟨ss, h, A1, c1, hrun, hch, hno, rfl, q11, q12, hE1, hbw4⟩)
 ·have hk : (k != 0) = true := by simp [hbad.ne]
  have HBw4 := Lib.hid (bthen HBw3.out hbw4 HBw3.out.size)
  have zw3w4 : w3.heap.size ≤ w4.heap.size := hbw4.size
  have HGw4 := Lib.hid (HGw3.out.below hbw4 HGw3.out.lt)
  have Eraww4 := Lib.hid (Eraww3.out.below hbw4)
  have Ewordw4 := Lib.hid (Ewordw3.out.below hbw4)
  have Etabw4 := Lib.hid (Etabw3.out.below hbw4 Etabw3.out.1)
  have EAw4 := Lib.hid (EAw3.out.below hbw4)
  have EYw4 := Lib.hid (EYw3.out.below hbw4)
  clear HGw3 Eraww3 Ewordw3 Etabw3 EAw3 EYw3
  clear hbad hbw4
  obtain ⟨w5, hww5⟩ : ∃ wq : World, wq = w4.alloc (.cells #[.int .i64 0, .int .i64 0, .int .i64 0, .slice none 0 0] 24) := ⟨_, rfl⟩
  have HWw5 := Lib.hid hww5
  have hbw5 : Below w4.heap.size w4 w5 := by rw [hww5]; exact (Below.refl _ _).alloc (Nat.le_refl _) _
  have HPw5 : Hid (Blk' w5 w4.heap.size 24 #[.int .i64 0, .int .i64 0, .int .i64 0, .slice none 0 0]) := Lib.hid (by rw [hww5]; exact Blk'.new _ _ _)
  have Zw5 : Hid (w5.heap.size = w4.heap.size + 1) := Lib.hid (by rw [hww5]; simp)
  have HBw5 := Lib.hid (bthen HBw4.out hbw5 HBw4.out.size)
  have zw4w5 : w4.heap.size ≤ w5.heap.size := hbw5.size
  have HGw5 := Lib.hid (HGw4.out.below hbw5 HGw4.out.lt)
  have Eraww5 := Lib.hid (Eraww4.out.below hbw5)
  have Ewordw5 := Lib.hid (Ewordw4.out.below hbw5)
  have Etabw5 := Lib.hid (Etabw4.out.below hbw5 Etabw4.out.1)
  have EAw5 := Lib.hid (EAw4.out.below hbw5)
  have EYw5 := Lib.hid (EYw4.out.below hbw5)
  clear HGw4 Eraww4 Ewordw4 Etabw4 EAw4 EYw4
  clear hww5 hbw5
  go_upto_region 4 with (fail)
  rw [← HWw5.out]
  go_wp2_with fail
  refine (factors_any _).mono ?_
  rintro e w6 ⟨rfl, hbw6⟩
  have HBw6 := Lib.hid (bthen HBw5.out hbw6 HBw5.out.size)
  have zw5w6 : w5.heap.size ≤ w6.heap.size := hbw6.size
  have HGw6 := Lib.hid (HGw5.out.below hbw6 HGw5.out.lt)
  have HPw6 := Lib.hid (HPw5.out.below hbw6 HPw5.out.lt)
  have Eraww6 := Lib.hid (Eraww5.out.below hbw6)
  have Ewordw6 := Lib.hid (Ewordw5.out.below hbw6)
  have Etabw6 := Lib.hid (Etabw5.out.below hbw6 Etabw5.out.1)
  have EAw6 := Lib.hid (EAw5.out.below hbw6)
  have EYw6 := Lib.hid (EYw5.out.below hbw6)
  clear HGw5 HPw5 Eraww5 Ewordw5 Etabw5 EAw5 EYw5
  clear hbw6
  go_wp2
  go_ret
  exact ⟨rfl, HBw6.out⟩
 ·have hj := FacRun.bij C.out hrun
  have HRun := Lib.hid hrun
  have CH : Hid (checkI h = 0) := Lib.hid hch
  have QH := Lib.hid (And.intro q11 q12)
  have HTm : Hid (h.terms = (gm : Int)) := Lib.hid hj.2.2.1
  have EHx := Lib.hid (hE1.keep (S' := fun b => b < w4.heap.size) (fun _ _ _ => rfl) (fun b hb => hb.2))
  have HBw4 := Lib.hid (bthen HBw3.out hbw4 HBw3.out.size)
  have zw3w4 : w3.heap.size ≤ w4.heap.size := hbw4.size
  have HGw4 := Lib.hid (HGw3.out.below hbw4 HGw3.out.lt)
  have Eraww4 := Lib.hid (Eraww3.out.below hbw4)
  have Ewordw4 := Lib.hid (Ewordw3.out.below hbw4)
  have Etabw4 := Lib.hid (Etabw3.out.below hbw4 Etabw3.out.1)
  have EAw4 := Lib.hid (EAw3.out.below hbw4)
  have EYw4 := Lib.hid (EYw3.out.below hbw4)
  clear HGw3 Eraww3 Ewordw3 Etabw3 EAw3 EYw3
  clear hbw4 hrun hch hno q11 q12 hE1 hj
  have EHw4 := EHx
  clear EHx
  obtain ⟨w5, hww5⟩ : ∃ wq : World, wq = w4.alloc (.cells #[.int .i64 h.terms, .int .i64 h.nons, .int .i64 h.start, .slice A1 h.rules.length c1] 24) := ⟨_, rfl⟩
  have HWw5 := Lib.hid hww5
  have hbw5 : Below w4.heap.size w4 w5 := by rw [hww5]; exact (Below.refl _ _).alloc (Nat.le_refl _) _
  have HPw5 : Hid (Blk' w5 w4.heap.size 24 #[.int .i64 h.terms, .int .i64 h.nons, .int .i64 h.start, .slice A1 h.rules.length c1]) := Lib.hid (by rw [hww5]; exact Blk'.new _ _ _)
  have Zw5 : Hid (w5.heap.size = w4.heap.size + 1) := Lib.hid (by rw [hww5]; simp)
  have HBw5 := Lib.hid (bthen HBw4.out hbw5 HBw4.out.size)
  have zw4w5 : w4.heap.size ≤ w5.heap.size := hbw5.size
  have HGw5 := Lib.hid (HGw4.out.below hbw5 HGw4.out.lt)
  have Eraww5 := Lib.hid (Eraww4.out.below hbw5)
  have Ewordw5 := Lib.hid (Ewordw4.out.below hbw5)
  have Etabw5 := Lib.hid (Etabw4.out.below hbw5 Etabw4.out.1)
  have EAw5 := Lib.hid (EAw4.out.below hbw5)
  have EYw5 := Lib.hid (EYw4.out.below hbw5)
  have EHw5 := Lib.hid (EHw4.out.below hbw5)
  clear HGw4 Eraww4 Ewordw4 Etabw4 EAw4 EYw4 EHw4
  clear hww5 hbw5
  go_upto_region 4 with (fail)
  rw [← HWw5.out]
  go_wp2_with fail
  refine (factors_any _).mono ?_
  rintro e w6 ⟨rfl, hbw6⟩
  have HBw6 := Lib.hid (bthen HBw5.out hbw6 HBw5.out.size)
  have zw5w6 : w5.heap.size ≤ w6.heap.size := hbw6.size
  have HGw6 := Lib.hid (HGw5.out.below hbw6 HGw5.out.lt)
  have HPw6 := Lib.hid (HPw5.out.below hbw6 HPw5.out.lt)
  have Eraww6 := Lib.hid (Eraww5.out.below hbw6)
  have Ewordw6 := Lib.hid (Ewordw5.out.below hbw6)
  have Etabw6 := Lib.hid (Etabw5.out.below hbw6 Etabw5.out.1)
  have EAw6 := Lib.hid (EAw5.out.below hbw6)
  have EYw6 := Lib.hid (EYw5.out.below hbw6)
  have EHw6 := Lib.hid (EHw5.out.below hbw6)
  clear HGw5 HPw5 Eraww5 Ewordw5 Etabw5 EAw5 EYw5 EHw5
  clear hbw6
  have cG0w6 : w6.cell? ⟨w1.heap.size, 0, none⟩ = some (.int .i64 (gm : Int)) := HGw6.out.cell 0
  have cG1w6 : w6.cell? ⟨w1.heap.size, 1, none⟩ = some (.int .i64 (gn : Int)) := HGw6.out.cell 1
  have cG2w6 : w6.cell? ⟨w1.heap.size, 2, none⟩ = some (.int .i64 (gs : Int)) := HGw6.out.cell 2
  have cG3w6 : w6.cell? ⟨w1.heap.size, 3, none⟩ = some (.slice A rs.length c) := HGw6.out.cell 3
  have czGw6 : w1.heap.size < w6.heap.size := HGw6.out.lt
  go_wp2_with fail
  clear cG0w6 cG1w6 cG2w6 cG3w6 czGw6
  refine (meanCount_any ⟨(gm : Int), (gn : Int), (gs : Int), rs⟩ ws A WA c wc (fun b => b < w1.heap.size) (fun b => b < w3.heap.size) w6 C.out Q.out.1 Q.out.2 EAw6.out (fun b hb => by have h0 : b < w1.heap.size := hb; omega) EYw6.out (fun b hb => by have h0 : b < w3.heap.size := hb; omega) HWr.out Etabw6.out).mono ?_
  rintro e w7 ⟨k, rfl, hk, _, hbw7⟩
  have HKn := Lib.hid hk
  have HBw7 := Lib.hid (bthen HBw6.out hbw7 HBw6.out.size)
  have zw6w7 : w6.heap.size ≤ w7.heap.size := hbw7.size
  have HGw7 := Lib.hid (HGw6.out.below hbw7 HGw6.out.lt)
  have HPw7 := Lib.hid (HPw6.out.below hbw7 HPw6.out.lt)
  have Eraww7 := Lib.hid (Eraww6.out.below hbw7)
  have Ewordw7 := Lib.hid (Ewordw6.out.below hbw7)
  have Etabw7 := Lib.hid (Etabw6.out.below hbw7 Etabw6.out.1)
  have EAw7 := Lib.hid (EAw6.out.below hbw7)
  have EYw7 := Lib.hid (EYw6.out.below hbw7)
  have EHw7 := Lib.hid (EHw6.out.below hbw7)
  clear HGw6 HPw6 Eraww6 Ewordw6 Etabw6 EAw6 EYw6 EHw6
  clear hbw7 hk
  have cP0w7 : w7.cell? ⟨w4.heap.size, 0, none⟩ = some (.int .i64 h.terms) := HPw7.out.cell 0
  have cP1w7 : w7.cell? ⟨w4.heap.size, 1, none⟩ = some (.int .i64 h.nons) := HPw7.out.cell 1
  have cP2w7 : w7.cell? ⟨w4.heap.size, 2, none⟩ = some (.int .i64 h.start) := HPw7.out.cell 2
  have cP3w7 : w7.cell? ⟨w4.heap.size, 3, none⟩ = some (.slice A1 h.rules.length c1) := HPw7.out.cell 3
  have czPw7 : w4.heap.size < w7.heap.size := HPw7.out.lt
  go_wp2_with fail
  clear cP0w7 cP1w7 cP2w7 cP3w7 czPw7
  refine (meanCount_any h ws A1 WA c1 wc (fun b => b < w4.heap.size) (fun b => b < w3.heap.size) w7 CH.out QH.out.1 QH.out.2 EHw7.out (fun b hb => by have h0 : b < w4.heap.size := hb; omega) EYw7.out (fun b hb => by have h0 : b < w3.heap.size := hb; omega) (by rw [HTm.out]; exact HWr.out) Etabw7.out).mono ?_
  rintro e w8 ⟨k2, rfl, hk2, _, hbw8⟩
  have he : k = k2 := fac_count C.out HRun.out HKn.out hk2
  subst he
  have HBw8 := Lib.hid (bthen HBw7.out hbw8 HBw7.out.size)
  have zw7w8 : w7.heap.size ≤ w8.heap.size := hbw8.size
  have HGw8 := Lib.hid (HGw7.out.below hbw8 HGw7.out.lt)
  have HPw8 := Lib.hid (HPw7.out.below hbw8 HPw7.out.lt)
  have Eraww8 := Lib.hid (Eraww7.out.below hbw8)
  have Ewordw8 := Lib.hid (Ewordw7.out.below hbw8)
  have Etabw8 := Lib.hid (Etabw7.out.below hbw8 Etabw7.out.1)
  have EAw8 := Lib.hid (EAw7.out.below hbw8)
  have EYw8 := Lib.hid (EYw7.out.below hbw8)
  have EHw8 := Lib.hid (EHw7.out.below hbw8)
  clear HGw7 HPw7 Eraww7 Ewordw7 Etabw7 EAw7 EYw7 EHw7
  clear hbw8 hk2
  go_wp2
  go_ret
  exact ⟨rfl, HBw8.out⟩
theorem factorCounts_row (raw word : List Int) (v0 v1 : Value) (W : World) (h0 : Vl W (OldS W) raw v0) (h1 : Vl W (OldS W) word v1) (hT : Tab32 W) :
  Calls Tryd.prog 4 #[v0, v1] W fun e W' => e = .returned (.bool true) ∧ Below W.heap.size W W' := by
 obtain ⟨A0, c0, rfl, p0, q0, e0⟩ := h0.slice
 obtain ⟨A1, c1, rfl, p1, q1, e1⟩ := h1.slice
 exact factorCounts_any raw A0 c0 word A1 c1 (OldS W) W p0 q0 e0 p1 q1 e1 (fun b h => h) hT
end Go.Proofs.YtjdojogjogenkaaDoor
