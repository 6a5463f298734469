/- Contract: mean.Count: the number of trees of a word, limited, or -1 for infinitely many. -/
import Derived.Test.YtjdojogjogenkaaDoorQMeanOf
namespace Go.Proofs.YtjdojogjogenkaaDoor
open Go.RowKit
set_option linter.unusedVariables false
def RetCnt (g : Gram) (ws : List Int) (w : World) (e : Ending) (w' : World) : Prop :=
 ∃ k : Int, e = .returned (.tuple #[.int .i64 k, .int .i64 0]) ∧ CntIs (TreesOf g ws) k ∧ I64 k ∧ Below w.heap.size w w'
theorem cnt_i64 {P : Tree → Prop} {k : Int} (h : CntIs P k) : I64 k := by
 rcases h with ⟨rfl, _⟩ | ⟨L, _, _, rfl⟩
 ·exact ⟨by omega, by omega⟩
 ·have : min L.length 1000000000 ≤ 1000000000 := Nat.min_le_right _ _
  exact ⟨by omega, by omega⟩
set_option maxRecDepth 100000 in
set_option maxHeartbeats 4000000 in
theorem meanCount_any (g : Gram) (ws : List Int) (A B : Option Addr) (c cw : Nat) (S Sw : Nat → Prop) (w : World) (hck : checkI g = 0) (hlc : g.rules.length ≤ c) (hc : c ≤ 9223372036854775807) (hA : Els w S g.rules A) (hS : ∀ b, S b → b < w.heap.size) (hB : Els w Sw ws B) (hSw : ∀ b, Sw b → b < w.heap.size) (hw : wordE g.terms ws 12 = 0) (hTab : Tab32 w) :
  Calls Tryd.prog 21 #[.agg #[.int .i64 g.terms, .int .i64 g.nons, .int .i64 g.start, .slice A g.rules.length c], .slice B ws.length cw] w (RetCnt g ws w) := by
 have hv := validG_of hck
 have hr : ∀ q ∈ g.rules, 0 ≤ q.left := fun q hq => (hv.rules q hq).1
 have hs : ∀ q ∈ g.rules, ∀ s ∈ q.right, 0 ≤ s.n := fun q hq s h => ((hv.rules q hq).2.2.2 s h).1
 have HRs := Lib.hid (And.intro hr hs)
 obtain ⟨gt, gn, gs, rs⟩ := g
 dsimp only at *
 have hn : 1 ≤ gt ∧ 1 ≤ gn ∧ 0 ≤ gs := ⟨hv.t1, hv.n1, hv.s0⟩
 have hlw : ws.length ≤ 12 := by
  unfold wordE at hw
  split at hw
  ·cases hw
  ·omega
 obtain ⟨tm, hte⟩ : ∃ n : Nat, gt = (n : Int) := ⟨gt.toNat, by omega⟩
 obtain ⟨n, hne⟩ : ∃ n : Nat, gn = (n : Int) := ⟨gn.toNat, by omega⟩
 obtain ⟨y, hye⟩ : ∃ y : Nat, gs = (y : Int) := ⟨gs.toNat, by omega⟩
 subst hte; subst hne; subst hye
 have HA := Lib.hid hA
 have HS := Lib.hid hS
 have HB := Lib.hid hB
 have HSw := Lib.hid hSw
 have HC := Lib.hid hck
 have HW := Lib.hid hw
 have HT := Lib.hid hTab
 have HG0 := Lib.hid (Blk'.new w 24 #[.int .i64 (tm : Int), .int .i64 (n : Int), .int .i64 (y : Int), .slice A rs.length c])
 have HB0 : Hid (Below w.heap.size w (w.alloc (.cells #[.int .i64 (tm : Int), .int .i64 (n : Int), .int .i64 (y : Int), .slice A rs.length c] 24))) := Lib.hid ((Below.refl _ _).alloc (Nat.le_refl _) _)
 clear hA hS hB hSw hck hw hv hn hTab hr hs
 go_enter Tryd.func21, Tryd.ntmps21
 go_wp2_with fail
 refine (mcheck_any ⟨(tm : Int), (n : Int), (y : Int), rs⟩ ws A B c cw S Sw _ HC.out hlc hc (HA.out.belowB HB0.out HS.out) (fun b hb => by have := HS.out b hb; simp; omega) (HB.out.belowB HB0.out HSw.out) (fun b hb => by have := HSw.out b hb; simp; omega) (by omega) HW.out).mono ?_
 rintro e w1 ⟨rfl, hb1⟩
 have HB1 := Lib.hid (bthen HB0.out hb1 HB0.out.size)
 have HG1 := Lib.hid (HG0.out.below hb1 (by simp))
 have a0 : w1.cell? ⟨w.heap.size, 0, none⟩ = some (.int .i64 (tm : Int)) := HG1.out.cell 0
 have a1 : w1.cell? ⟨w.heap.size, 1, none⟩ = some (.int .i64 (n : Int)) := HG1.out.cell 1
 have a2 : w1.cell? ⟨w.heap.size, 2, none⟩ = some (.int .i64 (y : Int)) := HG1.out.cell 2
 have a3 : w1.cell? ⟨w.heap.size, 3, none⟩ = some (.slice A rs.length c) := HG1.out.cell 3
 have zG : w.heap.size < w1.heap.size := HG1.out.lt
 clear hb1
 go_wp2_with fail
 refine (of_forest tm n y rs A c ws B cw S Sw w1 HC.out hlw hlc hc (HA.out.belowB HB1.out HS.out) (fun b hb => Nat.lt_of_lt_of_le (HS.out b hb) HB1.out.size) (HB.out.belowB HB1.out HSw.out) (fun b hb => Nat.lt_of_lt_of_le (HSw.out b hb) HB1.out.size) (HT.out.below HB1.out HT.out.1)).mono ?_
 rintro e w2 ⟨T, AF, nf, cF, root, SF, rfl, hSn, hCl, hF, hSF, hb2⟩
 have HSn := Lib.hid hSn
 have HCl := Lib.hid hCl
 have HB2 := Lib.hid (bthen HB1.out hb2 HB1.out.size)
 have HSF := Lib.hid hSF
 clear a0 a1 a2 a3 zG hSn hCl hb2 hSF
 rcases hF with ⟨rfl, hno⟩ | ⟨F, ks, r, rfl, rfl, hE, hF, hk, hl, hrl, hkl⟩
 ·have HNo := Lib.hid hno
  clear hno
  go_wp2_with fail
  refine (countNone_any AF cF nf w2).mono ?_
  rintro e w3 ⟨rfl, hb3⟩
  have HB3 := Lib.hid (bthen HB2.out hb3 HB2.out.size)
  clear hb3
  go_wp2_with fail
  refine bodyPost_ret (v := .tuple #[.int .i64 0, .int .i64 0]) (by simp [results, Tryd.results21, go_sem]) rfl ?_
  exact ⟨0, rfl, count_none HNo.out, ⟨by omega, by omega⟩, HB3.out⟩
 ·have HF := Lib.hid hF
  have HK := Lib.hid hk
  have HCo := Lib.hid (count_any F AF cF r SF w2 hl hrl hkl hE HSF.out)
  clear hF hk hkl hE
  go_wp2_with fail
  refine HCo.out.mono ?_
  rintro e w3 ⟨x, rfl, hx, hb3⟩
  have HX := Lib.hid hx
  have HB3 := Lib.hid (bthen HB2.out hb3 HB2.out.size)
  clear hb3 hx
  go_wp2_with fail
  refine bodyPost_ret (v := .tuple #[.int .i64 x, .int .i64 0]) (by simp [results, Tryd.results21, go_sem]) rfl ?_
  have h := count_is HSn.out HCl.out HRs.out.1 HRs.out.2 HF.out HK.out
  have hc2 : CntIs (TreesOf ⟨(tm : Int), (n : Int), (y : Int), rs⟩ ws) x := by
   rcases HX.out with ⟨rfl, h1⟩ | ⟨k, rfl, h1⟩
   ·exact h.1 h1
   ·exact h.2 k h1
  exact ⟨x, rfl, hc2, cnt_i64 hc2, HB3.out⟩
end Go.Proofs.YtjdojogjogenkaaDoor
