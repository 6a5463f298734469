/- The contract of the law PrecTables over arguments that read as data. -/
import Derived.Test.YtmfakaicgbpmfaaPrecPub
import Derived.Test.YtmfakaicgbpmfaaPrecPlus
import Derived.Test.YtmfakaicgbpmfaaRefLay
import Derived.Test.YtmfakaicgbpmfaaRefFlat
import Derived.Test.YtmfakaicgbpmfaaRefErr
import Derived.Test.YtmfakaicgbpmfaaSame
import Derived.Test.YtmfakaicgbpmfaaPrecOpen
namespace Go.Proofs.Ytmfakaicgbpmfaa
open Go.RowKit
set_option linter.unusedVariables false

theorem plus_check : precCheck plusT = 0 := by decide
theorem plus_flat : flatG plusT = ⟨2, 1, 0, [⟨0, [⟨true, 0⟩]⟩, ⟨0, [⟨false, 0⟩, ⟨true, 1⟩, ⟨false, 0⟩]⟩]⟩ := by decide
def zeroG : Gram := ⟨0, 0, 0, []⟩
theorem flat_ref {t : Table} (h : Valid t) : flatRulesB (decide (t.opn ≠ -1)) t = flatRules t := by rw [← h.hbrk]; rfl
/-- A grammar's cells in a block. -/
def GB (w : World) (b : Nat) (g : Gram) (s : Value) : Prop := Blk' w b 35 #[.int .i64 g.terms, .int .i64 g.nons, .int .i64 g.start, s]
theorem plus_64 : I64 plusT.terms ∧ I64 plusT.atom ∧ I64 plusT.opn ∧ I64 plusT.cls := ⟨⟨by decide, by decide⟩, ⟨by decide, by decide⟩, ⟨by decide, by decide⟩, ⟨by decide, by decide⟩⟩
theorem keepK {w W W' : World} {t : Table} {A : Option Addr} {c g hB : Nat} {gc hc : Array Value} {S1 S2 S3 : Nat → Prop} {r1 r2 : List Rule} {l : List Int} {A1 A2 A3 : Option Addr}
    (h : Below w.heap.size w W ∧ Blk' W w.heap.size 46 #[.int .i64 t.terms, .int .i64 t.atom, .int .i64 t.opn, .int .i64 t.cls, .slice A t.levels.length c] ∧ Blk' W g 35 gc ∧ Els W S1 r1 A1 ∧ Blk' W hB 35 hc ∧ Els W S2 r2 A2 ∧ Els W S3 l A3) (hb : Below W.heap.size W W') :
    Below w.heap.size w W' ∧ Blk' W' w.heap.size 46 #[.int .i64 t.terms, .int .i64 t.atom, .int .i64 t.opn, .int .i64 t.cls, .slice A t.levels.length c] ∧ Blk' W' g 35 gc ∧ Els W' S1 r1 A1 ∧ Blk' W' hB 35 hc ∧ Els W' S2 r2 A2 ∧ Els W' S3 l A3 :=
  ⟨bthen h.1 hb h.1.size, h.2.1.below hb h.2.1.lt, h.2.2.1.below hb h.2.2.1.lt, h.2.2.2.1.below hb, h.2.2.2.2.1.below hb h.2.2.2.2.1.lt, h.2.2.2.2.2.1.below hb, h.2.2.2.2.2.2.below hb⟩
theorem eq_any_true (A A' : Option Addr) (xs : List Int) (n n' c c' : Nat) (S S' : Nat → Prop) (w : World) (hn : n = xs.length) (hn' : n' = xs.length) (hm : xs.length ≤ 9223372036854775807) (hA : Els w S xs A) (hA' : Els w S' xs A') :
    Calls Try.prog 27 #[.slice A n c, .slice A' n' c'] w fun e w' => e = .returned (.bool true) ∧ Below w.heap.size w w' :=
  (equalInt_any A A' xs xs n n' c c' S S' w hn hn' hm hm hA hA').mono fun e w' ⟨h1, h2⟩ => ⟨by rw [h1]; simp, h2⟩
theorem sg_any_true (g : Gram) (n n' : Nat) (A A' : Option Addr) (c c' : Nat) (S S' : Nat → Prop) (w : World) (hn : n = g.rules.length) (hn' : n' = g.rules.length) (hc : g.rules.length ≤ c ∧ c ≤ 9223372036854775807) (hc' : g.rules.length ≤ c' ∧ c' ≤ 9223372036854775807) (hA : Els w S g.rules A) (hA' : Els w S' g.rules A') :
    Calls Try.prog 24 #[.agg #[.int .i64 g.terms, .int .i64 g.nons, .int .i64 g.start, .slice A n c], .agg #[.int .i64 g.terms, .int .i64 g.nons, .int .i64 g.start, .slice A' n' c']] w fun e w' => e = .returned (.bool true) ∧ Below w.heap.size w w' := by
  subst hn; subst hn'
  exact (sameGram_any g g A A' c c' S S' w hc hc' hA hA').mono fun e w' ⟨h1, h2⟩ => ⟨by rw [h1]; simp, h2⟩

set_option maxRecDepth 100000 in
set_option maxHeartbeats 4000000 in
theorem precTables_any (t : Table) (A : Option Addr) (c : Nat) (S : Nat → Prop) (w : World) (h64 : I64 t.terms ∧ I64 t.atom ∧ I64 t.opn ∧ I64 t.cls) (hlc : t.levels.length ≤ c) (hc : c ≤ 9223372036854775807) (hA : Els w S t.levels A) (hS : ∀ b, S b → b < w.heap.size) (hN : (allOps t).length ≤ 2000000) :
    Calls Try.prog 5 #[.agg #[.int .i64 t.terms, .int .i64 t.atom, .int .i64 t.opn, .int .i64 t.cls, .slice A t.levels.length c]] w fun e w' => e = .returned (.bool true) ∧ Below w.heap.size w w' := by
  have hba : Below w.heap.size w (w.alloc (.cells #[.int .i64 t.terms, .int .i64 t.atom, .int .i64 t.opn, .int .i64 t.cls, .slice A t.levels.length c] 46)) := (Below.refl _ _).alloc (Nat.le_refl _) _
  have hT0 := Blk'.new w 46 #[.int .i64 t.terms, .int .i64 t.atom, .int .i64 t.opn, .int .i64 t.cls, .slice A t.levels.length c]
  have H64 := Lib.hid h64
  have HN := Lib.hid hN
  have HA := Lib.hid hA
  have HS := Lib.hid hS
  have Hba := Lib.hid (And.intro hba hT0)
  clear h64 hN hA hS hba hT0
  by_cases h0 : precCheck t = 0
  · have V := Lib.hid (valid_of h0)
    have EF := Lib.hid (show flatG t = ⟨t.terms, 1, 0, flatRules t⟩ by simp [flatG, h0])
    have EY := Lib.hid (show layG t = ⟨t.terms, (t.levels.length : Int) + 1, 0, layRules (brk t) t⟩ by simp [layG, h0])
    have EZ := Lib.hid (show layL t = layTo (brk t) t by simp [layL, h0])
    have HE := Lib.hid h0
    clear h0
    have hgl : (flatRules t).length ≤ 1000000 := (V.out.small true).1.1
    have hhl : (layRules (brk t) t).length ≤ 1000000 := (V.out.small (brk t)).2.1.1
    have hll : (layTo (brk t) t).length ≤ 1000000 := (V.out.small (brk t)).2.1.2
    have HLn := Lib.hid (And.intro hgl (And.intro hhl hll))
    clear hgl hhl hll
    go_enter Try.func5, Try.ntmps5
    go_wp2_with fail
    refine (plus_any _).mono ?_
    rintro e w1 ⟨Ap, rfl, hEp, hb1⟩
    have HB1 := Lib.hid (And.intro (bthen Hba.out.1 hb1 Hba.out.1.size) (Hba.out.2.below hb1 Hba.out.2.lt))
    have HEp := Lib.hid hEp
    clear hb1 hEp Hba
    go_wp2_with fail
    refine (Flat_any plusT Ap 1 _ _ plus_64 (by decide) (by decide) HEp.out (fun b hb => hb) (by decide)).mono ?_
    rintro e w2 ⟨s2, rfl, hv2, hb2⟩
    have HB2 := Lib.hid (And.intro (bthen HB1.out.1 hb2 HB1.out.1.size) (HB1.out.2.below hb2 HB1.out.2.lt))
    obtain ⟨A2, c2, rfl, _⟩ := hv2.slice
    rw [plus_check, plus_flat]
    dsimp only
    have z2 : w.heap.size < w2.heap.size := HB2.out.2.lt
    have t20 : w2.cell? ⟨w.heap.size, 0, none⟩ = some (.int .i64 t.terms) := HB2.out.2.cell 0
    have t21 : w2.cell? ⟨w.heap.size, 1, none⟩ = some (.int .i64 t.atom) := HB2.out.2.cell 1
    have t22 : w2.cell? ⟨w.heap.size, 2, none⟩ = some (.int .i64 t.opn) := HB2.out.2.cell 2
    have t23 : w2.cell? ⟨w.heap.size, 3, none⟩ = some (.int .i64 t.cls) := HB2.out.2.cell 3
    have t24 : w2.cell? ⟨w.heap.size, 4, none⟩ = some (.slice A t.levels.length c) := HB2.out.2.cell 4
    have HBP := Lib.hid (And.intro (HB2.out.1.alloc HB2.out.1.size (.cells #[.int .i64 2, .int .i64 1, .int .i64 0, .slice A2 2 c2] 35)) (HB2.out.2.alloc (.cells #[.int .i64 2, .int .i64 1, .int .i64 0, .slice A2 2 c2] 35)))
    have HEA := Lib.hid (HA.out.belowB HBP.out.1 HS.out)
    have HSA : Hid (∀ b, S b → b < (w2.alloc (.cells #[.int .i64 2, .int .i64 1, .int .i64 0, .slice A2 2 c2] 35)).heap.size) := Lib.hid (fun b hb => Nat.lt_of_lt_of_le (HS.out b hb) HBP.out.1.size)
    clear hv2 hb2 HB1 HEp HB2
    go_wp2_with fail
    refine (Flat_any t A c S _ H64.out hlc hc HEA.out HSA.out HN.out).mono ?_
    rintro e w3 ⟨s3, rfl, hv3, hb3⟩
    rw [EF.out] at hv3 ⊢
    rw [HE.out]
    dsimp only at hv3 ⊢
    have HB3 := Lib.hid (And.intro (bthen HBP.out.1 hb3 HBP.out.1.size) (HBP.out.2.below hb3 HBP.out.2.lt))
    obtain ⟨A3, n3, c3, hn3, rfl, hc3⟩ : ∃ A3 n3 c3, n3 = (flatRules t).length ∧ s3 = .slice A3 n3 c3 ∧ ((flatRules t).length ≤ c3 ∧ c3 ≤ 9223372036854775807) := by obtain ⟨A, c, e, h1, h2, _⟩ := hv3.slice; exact ⟨A, _, c, rfl, e, h1, h2⟩
    have HV3 := Lib.hid (And.intro hn3 (And.intro hc3 hv3.els.2.2.2))
    clear hv3 hb3 hn3 hc3 HBP HEA HSA t20 t21 t22 t23 t24 z2
    have z3 : w.heap.size < w3.heap.size := HB3.out.2.lt
    have t30 : w3.cell? ⟨w.heap.size, 0, none⟩ = some (.int .i64 t.terms) := HB3.out.2.cell 0
    have t31 : w3.cell? ⟨w.heap.size, 1, none⟩ = some (.int .i64 t.atom) := HB3.out.2.cell 1
    have t32 : w3.cell? ⟨w.heap.size, 2, none⟩ = some (.int .i64 t.opn) := HB3.out.2.cell 2
    have t33 : w3.cell? ⟨w.heap.size, 3, none⟩ = some (.int .i64 t.cls) := HB3.out.2.cell 3
    have t34 : w3.cell? ⟨w.heap.size, 4, none⟩ = some (.slice A t.levels.length c) := HB3.out.2.cell 4
    have hba3 : Below w3.heap.size w3 (w3.alloc (.cells #[.int .i64 t.terms, .int .i64 1, .int .i64 0, .slice A3 n3 c3] 35)) := (Below.refl _ _).alloc (Nat.le_refl _) _
    have HBQ := Lib.hid (And.intro (bthen HB3.out.1 hba3 HB3.out.1.size) (And.intro (HB3.out.2.below hba3 HB3.out.2.lt) (And.intro (Blk'.new w3 35 #[.int .i64 t.terms, .int .i64 1, .int .i64 0, .slice A3 n3 c3]) (HV3.out.2.2.below hba3))))
    have HEA := Lib.hid (HA.out.belowB HBQ.out.1 HS.out)
    have HSA : Hid (∀ b, S b → b < (w3.alloc (.cells #[.int .i64 t.terms, .int .i64 1, .int .i64 0, .slice A3 n3 c3] 35)).heap.size) := Lib.hid (fun b hb => Nat.lt_of_lt_of_le (HS.out b hb) HBQ.out.1.size)
    clear hba3 HB3
    go_wp2_with fail
    refine (Layered_any t A c S _ H64.out hlc hc HEA.out HSA.out HN.out).mono ?_
    rintro e w4 ⟨s4, v4, rfl, hs4, hl4, hb4⟩
    rw [EY.out] at hs4 ⊢
    rw [EZ.out] at hl4
    rw [HE.out]
    dsimp only at hs4 ⊢
    obtain ⟨A4, n4, c4, hn4, rfl, hc4⟩ : ∃ A4 n4 c4, n4 = (layRules (brk t) t).length ∧ s4 = .slice A4 n4 c4 ∧ ((layRules (brk t) t).length ≤ c4 ∧ c4 ≤ 9223372036854775807) := by obtain ⟨A, c, e, h1, h2, _⟩ := hs4.slice; exact ⟨A, _, c, rfl, e, h1, h2⟩
    obtain ⟨A5, n5, c5, hn5, rfl⟩ : ∃ A5 n5 c5, n5 = (layTo (brk t) t).length ∧ v4 = .slice A5 n5 c5 := by obtain ⟨A, c, e, h1, h2, _⟩ := hl4.slice; exact ⟨A, _, c, rfl, e⟩
    have HV4 := Lib.hid (And.intro hn4 (And.intro hc4 (And.intro hs4.els.2.2.2 (And.intro hn5 hl4.els.2.2.2))))
    have HB4 := Lib.hid (And.intro (bthen HBQ.out.1 hb4 HBQ.out.1.size) (And.intro (HBQ.out.2.1.below hb4 HBQ.out.2.1.lt) (And.intro (HBQ.out.2.2.1.below hb4 HBQ.out.2.2.1.lt) (HBQ.out.2.2.2.below hb4))))
    clear hs4 hl4 hb4 hn4 hc4 hn5 HBQ HEA HSA t30 t31 t32 t33 t34 z3
    have z4 : w.heap.size < w4.heap.size := HB4.out.2.1.lt
    have z4g : w3.heap.size < w4.heap.size := HB4.out.2.2.1.lt
    have t40 : w4.cell? ⟨w.heap.size, 0, none⟩ = some (.int .i64 t.terms) := HB4.out.2.1.cell 0
    have t41 : w4.cell? ⟨w.heap.size, 1, none⟩ = some (.int .i64 t.atom) := HB4.out.2.1.cell 1
    have t42 : w4.cell? ⟨w.heap.size, 2, none⟩ = some (.int .i64 t.opn) := HB4.out.2.1.cell 2
    have t43 : w4.cell? ⟨w.heap.size, 3, none⟩ = some (.int .i64 t.cls) := HB4.out.2.1.cell 3
    have t44 : w4.cell? ⟨w.heap.size, 4, none⟩ = some (.slice A t.levels.length c) := HB4.out.2.1.cell 4
    have hba4 : Below w4.heap.size w4 (w4.alloc (.cells #[.int .i64 t.terms, .int .i64 ((t.levels.length : Int) + 1), .int .i64 0, .slice A4 n4 c4] 35)) := (Below.refl _ _).alloc (Nat.le_refl _) _
    have HK := Lib.hid (And.intro (bthen HB4.out.1 hba4 HB4.out.1.size) (And.intro (HB4.out.2.1.below hba4 HB4.out.2.1.lt) (And.intro (HB4.out.2.2.1.below hba4 HB4.out.2.2.1.lt) (And.intro (HB4.out.2.2.2.below hba4) (And.intro (Blk'.new w4 35 #[.int .i64 t.terms, .int .i64 ((t.levels.length : Int) + 1), .int .i64 0, .slice A4 n4 c4]) (And.intro (HV4.out.2.2.1.below hba4) (HV4.out.2.2.2.2.below hba4)))))))
    have HEA := Lib.hid (HA.out.belowB HK.out.1 HS.out)
    have HSA : Hid (∀ b, S b → b < (w4.alloc (.cells #[.int .i64 t.terms, .int .i64 ((t.levels.length : Int) + 1), .int .i64 0, .slice A4 n4 c4] 35)).heap.size) := Lib.hid (fun b hb => Nat.lt_of_lt_of_le (HS.out b hb) HK.out.1.size)
    clear hba4 HB4
    go_wp2_with fail
    refine (precErr_any t A c S _ H64.out hlc hc HEA.out HSA.out HN.out).mono ?_
    rintro e w5 ⟨rfl, hb5⟩
    rw [HE.out]
    have HK5 := Lib.hid (keepK HK.out hb5)
    clear hb5 HK HEA HSA t40 t41 t42 t43 t44
    have z5 : w.heap.size < w5.heap.size := HK5.out.2.1.lt
    have t50 : w5.cell? ⟨w.heap.size, 0, none⟩ = some (.int .i64 t.terms) := HK5.out.2.1.cell 0
    have t51 : w5.cell? ⟨w.heap.size, 1, none⟩ = some (.int .i64 t.atom) := HK5.out.2.1.cell 1
    have t52 : w5.cell? ⟨w.heap.size, 2, none⟩ = some (.int .i64 t.opn) := HK5.out.2.1.cell 2
    have t53 : w5.cell? ⟨w.heap.size, 3, none⟩ = some (.int .i64 t.cls) := HK5.out.2.1.cell 3
    have t54 : w5.cell? ⟨w.heap.size, 4, none⟩ = some (.slice A t.levels.length c) := HK5.out.2.1.cell 4
    have HEA := Lib.hid (HA.out.belowB HK5.out.1 HS.out)
    have HSA : Hid (∀ b, S b → b < w5.heap.size) := Lib.hid (fun b hb => Nat.lt_of_lt_of_le (HS.out b hb) HK5.out.1.size)
    go_wp2_with fail
    refine (precCheck_any t A c S _ H64.out hlc hc HEA.out HSA.out HN.out).mono ?_
    rintro e w6 ⟨rfl, hb6⟩
    rw [HE.out]
    have HK6 := Lib.hid (keepK HK5.out hb6)
    clear hb6 HK5 HEA HSA t50 t51 t52 t53 t54 z5
    have t60 : w6.cell? ⟨w.heap.size, 0, none⟩ = some (.int .i64 t.terms) := HK6.out.2.1.cell 0
    have t61 : w6.cell? ⟨w.heap.size, 1, none⟩ = some (.int .i64 t.atom) := HK6.out.2.1.cell 1
    have t62 : w6.cell? ⟨w.heap.size, 2, none⟩ = some (.int .i64 t.opn) := HK6.out.2.1.cell 2
    have t63 : w6.cell? ⟨w.heap.size, 3, none⟩ = some (.int .i64 t.cls) := HK6.out.2.1.cell 3
    have t64 : w6.cell? ⟨w.heap.size, 4, none⟩ = some (.slice A t.levels.length c) := HK6.out.2.1.cell 4
    have HEA := Lib.hid (HA.out.belowB HK6.out.1 HS.out)
    have HSA : Hid (∀ b, S b → b < w6.heap.size) := Lib.hid (fun b hb => Nat.lt_of_lt_of_le (HS.out b hb) HK6.out.1.size)
    go_wp2_with fail
    refine (refLay_any t A c S _ H64.out hlc hc (by have := V.out.levels; omega) HEA.out HSA.out V.out.kinds (V.out.small _).2.1).mono ?_
    rintro e w7 ⟨v7, u7, rfl, h7, hb7⟩
    rw [← V.out.hbrk] at h7
    obtain ⟨A7, n7, c7, hn7, rfl, hc7⟩ : ∃ A7 n7 c7, n7 = (layRules (brk t) t).length ∧ v7 = .slice A7 n7 c7 ∧ ((layRules (brk t) t).length ≤ c7 ∧ c7 ≤ 9223372036854775807) := by obtain ⟨A, c, e, h1, h2, _⟩ := h7.1.form; exact ⟨A, _, c, rfl, e, h1, h2⟩
    obtain ⟨A8, n8, c8, hn8, rfl⟩ : ∃ A8 n8 c8, n8 = (layTo (brk t) t).length ∧ u7 = .slice A8 n8 c8 := by obtain ⟨A, c, e, h1, h2, _⟩ := h7.2.1.form; exact ⟨A, _, c, rfl, e⟩
    have HV7 := Lib.hid (And.intro hn7 (And.intro hc7 (And.intro h7.vl1.els.2.2.2 (And.intro hn8 h7.vl2.els.2.2.2))))
    have HK7 := Lib.hid (keepK HK6.out hb7)
    clear h7 hb7 hn7 hc7 hn8 HK6 HEA HSA t60 t61 t62 t63 t64
    go_wp2_with fail
    obtain ⟨w8, hw8⟩ : ∃ w8 : World, w8 = w7.alloc (.cells #[.int .i64 t.terms, .int .i64 ((t.levels.length : Int) + 1), .int .i64 0, .slice A7 n7 c7] 35) := ⟨_, rfl⟩
    rw [← hw8]
    have hb8 : Below w7.heap.size w7 w8 := by rw [hw8]; exact (Below.refl _ _).alloc (Nat.le_refl _) _
    have hW8 : Blk' w8 w7.heap.size 35 #[.int .i64 t.terms, .int .i64 ((t.levels.length : Int) + 1), .int .i64 0, .slice A7 n7 c7] := by rw [hw8]; exact Blk'.new _ _ _
    have HK8 := Lib.hid (And.intro (keepK HK7.out hb8) (And.intro hW8 (And.intro (HV7.out.2.2.1.below hb8) (HV7.out.2.2.2.2.below hb8))))
    clear hw8 hb8 hW8 HK7
    have t80 : w8.cell? ⟨w.heap.size, 0, none⟩ = some (.int .i64 t.terms) := HK8.out.1.2.1.cell 0
    have t81 : w8.cell? ⟨w.heap.size, 1, none⟩ = some (.int .i64 t.atom) := HK8.out.1.2.1.cell 1
    have t82 : w8.cell? ⟨w.heap.size, 2, none⟩ = some (.int .i64 t.opn) := HK8.out.1.2.1.cell 2
    have t83 : w8.cell? ⟨w.heap.size, 3, none⟩ = some (.int .i64 t.cls) := HK8.out.1.2.1.cell 3
    have t84 : w8.cell? ⟨w.heap.size, 4, none⟩ = some (.slice A t.levels.length c) := HK8.out.1.2.1.cell 4
    have g80 : w8.cell? ⟨w3.heap.size, 0, none⟩ = some (.int .i64 t.terms) := HK8.out.1.2.2.1.cell 0
    have g81 : w8.cell? ⟨w3.heap.size, 1, none⟩ = some (.int .i64 1) := HK8.out.1.2.2.1.cell 1
    have g82 : w8.cell? ⟨w3.heap.size, 2, none⟩ = some (.int .i64 0) := HK8.out.1.2.2.1.cell 2
    have g83 : w8.cell? ⟨w3.heap.size, 3, none⟩ = some (.slice A3 n3 c3) := HK8.out.1.2.2.1.cell 3
    have h80 : w8.cell? ⟨w4.heap.size, 0, none⟩ = some (.int .i64 t.terms) := HK8.out.1.2.2.2.2.1.cell 0
    have h81 : w8.cell? ⟨w4.heap.size, 1, none⟩ = some (.int .i64 ((t.levels.length : Int) + 1)) := HK8.out.1.2.2.2.2.1.cell 1
    have h82 : w8.cell? ⟨w4.heap.size, 2, none⟩ = some (.int .i64 0) := HK8.out.1.2.2.2.2.1.cell 2
    have h83 : w8.cell? ⟨w4.heap.size, 3, none⟩ = some (.slice A4 n4 c4) := HK8.out.1.2.2.2.2.1.cell 3
    have k80 : w8.cell? ⟨w7.heap.size, 0, none⟩ = some (.int .i64 t.terms) := HK8.out.2.1.cell 0
    have k81 : w8.cell? ⟨w7.heap.size, 1, none⟩ = some (.int .i64 ((t.levels.length : Int) + 1)) := HK8.out.2.1.cell 1
    have k82 : w8.cell? ⟨w7.heap.size, 2, none⟩ = some (.int .i64 0) := HK8.out.2.1.cell 2
    have k83 : w8.cell? ⟨w7.heap.size, 3, none⟩ = some (.slice A7 n7 c7) := HK8.out.2.1.cell 3
    have tok1 : True := trivial
    have HEA8 : Hid (Els w8.drew S t.levels A) := Lib.hid ((HA.out.belowB HK8.out.1.1 HS.out).below ((Below.refl _ _).drew))
    have HSA8 : Hid (∀ b, S b → b < w8.drew.heap.size) := Lib.hid (fun b hb => Nat.lt_of_lt_of_le (HS.out b hb) HK8.out.1.1.size)
    have HF8 : Hid ((flatRulesB (decide (t.opn ≠ -1)) t).length ≤ 1000000) := Lib.hid (by rw [flat_ref V.out]; exact HLn.out.1)
    go_region_held3 (fun w' => w'.cell? ⟨w3.heap.size, 0, none⟩ = some (.int .i64 t.terms) ∧ w'.cell? ⟨w3.heap.size, 1, none⟩ = some (.int .i64 1) ∧ w'.cell? ⟨w3.heap.size, 2, none⟩ = some (.int .i64 0) ∧ w'.cell? ⟨w3.heap.size, 3, none⟩ = some (.slice A3 n3 c3) ∧ w'.cell? ⟨w4.heap.size, 0, none⟩ = some (.int .i64 t.terms) ∧ w'.cell? ⟨w4.heap.size, 1, none⟩ = some (.int .i64 ((t.levels.length : Int) + 1)) ∧ w'.cell? ⟨w4.heap.size, 2, none⟩ = some (.int .i64 0) ∧ w'.cell? ⟨w4.heap.size, 3, none⟩ = some (.slice A4 n4 c4) ∧ w'.cell? ⟨w7.heap.size, 0, none⟩ = some (.int .i64 t.terms) ∧ w'.cell? ⟨w7.heap.size, 1, none⟩ = some (.int .i64 ((t.levels.length : Int) + 1)) ∧ w'.cell? ⟨w7.heap.size, 2, none⟩ = some (.int .i64 0) ∧ w'.cell? ⟨w7.heap.size, 3, none⟩ = some (.slice A7 n7 c7) ∧ w'.cell? ⟨w.heap.size, 0, none⟩ = some (.int .i64 t.terms) ∧ w'.cell? ⟨w.heap.size, 1, none⟩ = some (.int .i64 t.atom) ∧ w'.cell? ⟨w.heap.size, 2, none⟩ = some (.int .i64 t.opn) ∧ w'.cell? ⟨w.heap.size, 3, none⟩ = some (.int .i64 t.cls) ∧ w'.cell? ⟨w.heap.size, 4, none⟩ = some (.slice A t.levels.length c)) (go_keep)
      (first
      | (go_at_call 26; refine (refFlat_any t A c S _ H64.out hlc hc HEA8.out HSA8.out HF8.out).mono ?_; rintro e w9 ⟨v9, rfl, h9, hb9'⟩; have hb9 := bundrew hb9'; rw [flat_ref V.out] at h9; obtain ⟨A9, c9, rfl, hc9, hc9', _⟩ := h9.form; have HV9 := Lib.hid (And.intro hc9 (And.intro hc9' h9.vl.els.2.2.2)); have HK9 := Lib.hid (And.intro (keepK HK8.out.1 hb9) (And.intro (HK8.out.2.1.below hb9 HK8.out.2.1.lt) (And.intro (HK8.out.2.2.1.below hb9) (HK8.out.2.2.2.below hb9)))); have t90 : w9.cell? ⟨w.heap.size, 0, none⟩ = some (.int .i64 t.terms) := HK9.out.1.2.1.cell 0; have t91 : w9.cell? ⟨w.heap.size, 1, none⟩ = some (.int .i64 t.atom) := HK9.out.1.2.1.cell 1; have t92 : w9.cell? ⟨w.heap.size, 2, none⟩ = some (.int .i64 t.opn) := HK9.out.1.2.1.cell 2; have t93 : w9.cell? ⟨w.heap.size, 3, none⟩ = some (.int .i64 t.cls) := HK9.out.1.2.1.cell 3; have t94 : w9.cell? ⟨w.heap.size, 4, none⟩ = some (.slice A t.levels.length c) := HK9.out.1.2.1.cell 4; have g90 : w9.cell? ⟨w3.heap.size, 0, none⟩ = some (.int .i64 t.terms) := HK9.out.1.2.2.1.cell 0; have g91 : w9.cell? ⟨w3.heap.size, 1, none⟩ = some (.int .i64 1) := HK9.out.1.2.2.1.cell 1; have g92 : w9.cell? ⟨w3.heap.size, 2, none⟩ = some (.int .i64 0) := HK9.out.1.2.2.1.cell 2; have g93 : w9.cell? ⟨w3.heap.size, 3, none⟩ = some (.slice A3 n3 c3) := HK9.out.1.2.2.1.cell 3; have h90 : w9.cell? ⟨w4.heap.size, 0, none⟩ = some (.int .i64 t.terms) := HK9.out.1.2.2.2.2.1.cell 0; have h91 : w9.cell? ⟨w4.heap.size, 1, none⟩ = some (.int .i64 ((t.levels.length : Int) + 1)) := HK9.out.1.2.2.2.2.1.cell 1; have h92 : w9.cell? ⟨w4.heap.size, 2, none⟩ = some (.int .i64 0) := HK9.out.1.2.2.2.2.1.cell 2; have h93 : w9.cell? ⟨w4.heap.size, 3, none⟩ = some (.slice A4 n4 c4) := HK9.out.1.2.2.2.2.1.cell 3; have k90 : w9.cell? ⟨w7.heap.size, 0, none⟩ = some (.int .i64 t.terms) := HK9.out.2.1.cell 0; have k91 : w9.cell? ⟨w7.heap.size, 1, none⟩ = some (.int .i64 ((t.levels.length : Int) + 1)) := HK9.out.2.1.cell 1; have k92 : w9.cell? ⟨w7.heap.size, 2, none⟩ = some (.int .i64 0) := HK9.out.2.1.cell 2; have k93 : w9.cell? ⟨w7.heap.size, 3, none⟩ = some (.slice A7 n7 c7) := HK9.out.2.1.cell 3; clear hb9 hb9' h9 hc9 hc9')
      | (go_at_call 24; have _t := tok1; refine (sg_any_true ⟨t.terms, 1, 0, flatRules t⟩ _ _ A3 A9 c3 c9 _ _ _ HV3.out.1 rfl HV3.out.2.1 ⟨HV9.out.1, HV9.out.2.1⟩ (by exact HK9.out.1.2.2.2.1) (by exact HV9.out.2.2)).mono ?_; rintro e w10 ⟨rfl, hb10⟩; have HK10 := Lib.hid (And.intro (keepK HK9.out.1 hb10) (And.intro (HK9.out.2.1.below hb10 HK9.out.2.1.lt) (And.intro (HK9.out.2.2.1.below hb10) (HK9.out.2.2.2.below hb10)))); have t100 : w10.cell? ⟨w.heap.size, 0, none⟩ = some (.int .i64 t.terms) := HK10.out.1.2.1.cell 0; have t101 : w10.cell? ⟨w.heap.size, 1, none⟩ = some (.int .i64 t.atom) := HK10.out.1.2.1.cell 1; have t102 : w10.cell? ⟨w.heap.size, 2, none⟩ = some (.int .i64 t.opn) := HK10.out.1.2.1.cell 2; have t103 : w10.cell? ⟨w.heap.size, 3, none⟩ = some (.int .i64 t.cls) := HK10.out.1.2.1.cell 3; have t104 : w10.cell? ⟨w.heap.size, 4, none⟩ = some (.slice A t.levels.length c) := HK10.out.1.2.1.cell 4; have g100 : w10.cell? ⟨w3.heap.size, 0, none⟩ = some (.int .i64 t.terms) := HK10.out.1.2.2.1.cell 0; have g101 : w10.cell? ⟨w3.heap.size, 1, none⟩ = some (.int .i64 1) := HK10.out.1.2.2.1.cell 1; have g102 : w10.cell? ⟨w3.heap.size, 2, none⟩ = some (.int .i64 0) := HK10.out.1.2.2.1.cell 2; have g103 : w10.cell? ⟨w3.heap.size, 3, none⟩ = some (.slice A3 n3 c3) := HK10.out.1.2.2.1.cell 3; have h100 : w10.cell? ⟨w4.heap.size, 0, none⟩ = some (.int .i64 t.terms) := HK10.out.1.2.2.2.2.1.cell 0; have h101 : w10.cell? ⟨w4.heap.size, 1, none⟩ = some (.int .i64 ((t.levels.length : Int) + 1)) := HK10.out.1.2.2.2.2.1.cell 1; have h102 : w10.cell? ⟨w4.heap.size, 2, none⟩ = some (.int .i64 0) := HK10.out.1.2.2.2.2.1.cell 2; have h103 : w10.cell? ⟨w4.heap.size, 3, none⟩ = some (.slice A4 n4 c4) := HK10.out.1.2.2.2.2.1.cell 3; have k100 : w10.cell? ⟨w7.heap.size, 0, none⟩ = some (.int .i64 t.terms) := HK10.out.2.1.cell 0; have k101 : w10.cell? ⟨w7.heap.size, 1, none⟩ = some (.int .i64 ((t.levels.length : Int) + 1)) := HK10.out.2.1.cell 1; have k102 : w10.cell? ⟨w7.heap.size, 2, none⟩ = some (.int .i64 0) := HK10.out.2.1.cell 2; have k103 : w10.cell? ⟨w7.heap.size, 3, none⟩ = some (.slice A7 n7 c7) := HK10.out.2.1.cell 3; clear hb10 _t tok1)
      | (go_at_call 24; refine (sg_any_true ⟨t.terms, (t.levels.length : Int) + 1, 0, layRules (brk t) t⟩ _ _ A4 A7 c4 c7 _ _ _ HV4.out.1 HV7.out.1 HV4.out.2.1 HV7.out.2.1 (by exact HK10.out.1.2.2.2.2.2.1) (by exact HK10.out.2.2.1)).mono ?_; rintro e w11 ⟨rfl, hb11⟩; have HK11 := Lib.hid (And.intro (keepK HK10.out.1 hb11) (And.intro (HK10.out.2.1.below hb11 HK10.out.2.1.lt) (And.intro (HK10.out.2.2.1.below hb11) (HK10.out.2.2.2.below hb11)))); have t110 : w11.cell? ⟨w.heap.size, 0, none⟩ = some (.int .i64 t.terms) := HK11.out.1.2.1.cell 0; have t111 : w11.cell? ⟨w.heap.size, 1, none⟩ = some (.int .i64 t.atom) := HK11.out.1.2.1.cell 1; have t112 : w11.cell? ⟨w.heap.size, 2, none⟩ = some (.int .i64 t.opn) := HK11.out.1.2.1.cell 2; have t113 : w11.cell? ⟨w.heap.size, 3, none⟩ = some (.int .i64 t.cls) := HK11.out.1.2.1.cell 3; have t114 : w11.cell? ⟨w.heap.size, 4, none⟩ = some (.slice A t.levels.length c) := HK11.out.1.2.1.cell 4; have g110 : w11.cell? ⟨w3.heap.size, 0, none⟩ = some (.int .i64 t.terms) := HK11.out.1.2.2.1.cell 0; have g111 : w11.cell? ⟨w3.heap.size, 1, none⟩ = some (.int .i64 1) := HK11.out.1.2.2.1.cell 1; have g112 : w11.cell? ⟨w3.heap.size, 2, none⟩ = some (.int .i64 0) := HK11.out.1.2.2.1.cell 2; have g113 : w11.cell? ⟨w3.heap.size, 3, none⟩ = some (.slice A3 n3 c3) := HK11.out.1.2.2.1.cell 3; have h110 : w11.cell? ⟨w4.heap.size, 0, none⟩ = some (.int .i64 t.terms) := HK11.out.1.2.2.2.2.1.cell 0; have h111 : w11.cell? ⟨w4.heap.size, 1, none⟩ = some (.int .i64 ((t.levels.length : Int) + 1)) := HK11.out.1.2.2.2.2.1.cell 1; have h112 : w11.cell? ⟨w4.heap.size, 2, none⟩ = some (.int .i64 0) := HK11.out.1.2.2.2.2.1.cell 2; have h113 : w11.cell? ⟨w4.heap.size, 3, none⟩ = some (.slice A4 n4 c4) := HK11.out.1.2.2.2.2.1.cell 3; have k110 : w11.cell? ⟨w7.heap.size, 0, none⟩ = some (.int .i64 t.terms) := HK11.out.2.1.cell 0; have k111 : w11.cell? ⟨w7.heap.size, 1, none⟩ = some (.int .i64 ((t.levels.length : Int) + 1)) := HK11.out.2.1.cell 1; have k112 : w11.cell? ⟨w7.heap.size, 2, none⟩ = some (.int .i64 0) := HK11.out.2.1.cell 2; have k113 : w11.cell? ⟨w7.heap.size, 3, none⟩ = some (.slice A7 n7 c7) := HK11.out.2.1.cell 3; clear hb11)
      | (go_at_call 27; refine (eq_any_true A5 A8 (layTo (brk t) t) _ _ _ _ _ _ _ HV4.out.2.2.2.1 HV7.out.2.2.2.1 (by have := HLn.out.2.2; omega) (by exact HK11.out.1.2.2.2.2.2.2) (by exact HK11.out.2.2.2)).mono ?_; rintro e w12 ⟨rfl, hb12⟩; have HK12 := Lib.hid (And.intro (keepK HK11.out.1 hb12) (And.intro (HK11.out.2.1.below hb12 HK11.out.2.1.lt) (And.intro (HK11.out.2.2.1.below hb12) (HK11.out.2.2.2.below hb12)))); have t120 : w12.cell? ⟨w.heap.size, 0, none⟩ = some (.int .i64 t.terms) := HK12.out.1.2.1.cell 0; have t121 : w12.cell? ⟨w.heap.size, 1, none⟩ = some (.int .i64 t.atom) := HK12.out.1.2.1.cell 1; have t122 : w12.cell? ⟨w.heap.size, 2, none⟩ = some (.int .i64 t.opn) := HK12.out.1.2.1.cell 2; have t123 : w12.cell? ⟨w.heap.size, 3, none⟩ = some (.int .i64 t.cls) := HK12.out.1.2.1.cell 3; have t124 : w12.cell? ⟨w.heap.size, 4, none⟩ = some (.slice A t.levels.length c) := HK12.out.1.2.1.cell 4; have g120 : w12.cell? ⟨w3.heap.size, 0, none⟩ = some (.int .i64 t.terms) := HK12.out.1.2.2.1.cell 0; have g121 : w12.cell? ⟨w3.heap.size, 1, none⟩ = some (.int .i64 1) := HK12.out.1.2.2.1.cell 1; have g122 : w12.cell? ⟨w3.heap.size, 2, none⟩ = some (.int .i64 0) := HK12.out.1.2.2.1.cell 2; have g123 : w12.cell? ⟨w3.heap.size, 3, none⟩ = some (.slice A3 n3 c3) := HK12.out.1.2.2.1.cell 3; have h120 : w12.cell? ⟨w4.heap.size, 0, none⟩ = some (.int .i64 t.terms) := HK12.out.1.2.2.2.2.1.cell 0; have h121 : w12.cell? ⟨w4.heap.size, 1, none⟩ = some (.int .i64 ((t.levels.length : Int) + 1)) := HK12.out.1.2.2.2.2.1.cell 1; have h122 : w12.cell? ⟨w4.heap.size, 2, none⟩ = some (.int .i64 0) := HK12.out.1.2.2.2.2.1.cell 2; have h123 : w12.cell? ⟨w4.heap.size, 3, none⟩ = some (.slice A4 n4 c4) := HK12.out.1.2.2.2.2.1.cell 3; have k120 : w12.cell? ⟨w7.heap.size, 0, none⟩ = some (.int .i64 t.terms) := HK12.out.2.1.cell 0; have k121 : w12.cell? ⟨w7.heap.size, 1, none⟩ = some (.int .i64 ((t.levels.length : Int) + 1)) := HK12.out.2.1.cell 1; have k122 : w12.cell? ⟨w7.heap.size, 2, none⟩ = some (.int .i64 0) := HK12.out.2.1.cell 2; have k123 : w12.cell? ⟨w7.heap.size, 3, none⟩ = some (.slice A7 n7 c7) := HK12.out.2.1.cell 3; clear hb12))
    all_goals
      go_wp2
      go_ret
      exact ⟨rfl, HK12.out.1.1⟩
  · have EF := Lib.hid (show flatG t = ⟨0, 0, 0, []⟩ by simp [flatG, h0])
    have EY := Lib.hid (show layG t = ⟨0, 0, 0, []⟩ by simp [layG, h0])
    have EZ := Lib.hid (show layL t = [] by simp [layL, h0])
    have hq : (precCheck t != 0) = true := by simpa using h0
    clear h0
    go_enter Try.func5, Try.ntmps5
    go_wp2_with fail
    refine (plus_any _).mono ?_
    rintro e w1 ⟨Ap, rfl, hEp, hb1⟩
    have HB1 := Lib.hid (And.intro (bthen Hba.out.1 hb1 Hba.out.1.size) (Hba.out.2.below hb1 Hba.out.2.lt))
    have HEp := Lib.hid hEp
    clear hb1 hEp Hba
    go_wp2_with fail
    refine (Flat_any plusT Ap 1 _ _ plus_64 (by decide) (by decide) HEp.out (fun b hb => hb) (by decide)).mono ?_
    rintro e w2 ⟨s2, rfl, hv2, hb2⟩
    have HB2 := Lib.hid (And.intro (bthen HB1.out.1 hb2 HB1.out.1.size) (HB1.out.2.below hb2 HB1.out.2.lt))
    obtain ⟨A2, c2, rfl, _⟩ := hv2.slice
    rw [plus_check, plus_flat]
    dsimp only
    have z2 : w.heap.size < w2.heap.size := HB2.out.2.lt
    have t20 : w2.cell? ⟨w.heap.size, 0, none⟩ = some (.int .i64 t.terms) := HB2.out.2.cell 0
    have t21 : w2.cell? ⟨w.heap.size, 1, none⟩ = some (.int .i64 t.atom) := HB2.out.2.cell 1
    have t22 : w2.cell? ⟨w.heap.size, 2, none⟩ = some (.int .i64 t.opn) := HB2.out.2.cell 2
    have t23 : w2.cell? ⟨w.heap.size, 3, none⟩ = some (.int .i64 t.cls) := HB2.out.2.cell 3
    have t24 : w2.cell? ⟨w.heap.size, 4, none⟩ = some (.slice A t.levels.length c) := HB2.out.2.cell 4
    have HBP := Lib.hid (And.intro (HB2.out.1.alloc HB2.out.1.size (.cells #[.int .i64 2, .int .i64 1, .int .i64 0, .slice A2 2 c2] 35)) (HB2.out.2.alloc (.cells #[.int .i64 2, .int .i64 1, .int .i64 0, .slice A2 2 c2] 35)))
    have HEA := Lib.hid (HA.out.belowB HBP.out.1 HS.out)
    have HSA : Hid (∀ b, S b → b < (w2.alloc (.cells #[.int .i64 2, .int .i64 1, .int .i64 0, .slice A2 2 c2] 35)).heap.size) := Lib.hid (fun b hb => Nat.lt_of_lt_of_le (HS.out b hb) HBP.out.1.size)
    clear hv2 hb2 HB1 HEp HB2
    go_wp2_with fail
    refine (Flat_any t A c S _ H64.out hlc hc HEA.out HSA.out HN.out).mono ?_
    rintro e w3 ⟨s3, rfl, hv3, hb3⟩
    rw [EF.out] at hv3 ⊢
    dsimp only at hv3 ⊢
    have HB3 := Lib.hid (And.intro (bthen HBP.out.1 hb3 HBP.out.1.size) (HBP.out.2.below hb3 HBP.out.2.lt))
    obtain ⟨A3, n3, c3, hn3, rfl, hc3⟩ : ∃ A3 n3 c3, n3 = ([] : List Rule).length ∧ s3 = .slice A3 n3 c3 ∧ (([] : List Rule).length ≤ c3 ∧ c3 ≤ 9223372036854775807) := by obtain ⟨A, c, e, h1, h2, _⟩ := hv3.slice; exact ⟨A, _, c, rfl, e, h1, h2⟩
    have HV3 := Lib.hid (And.intro hn3 (And.intro hc3 hv3.els.2.2.2))
    clear hv3 hb3 hn3 hc3 HBP HEA HSA t20 t21 t22 t23 t24 z2
    have z3 : w.heap.size < w3.heap.size := HB3.out.2.lt
    have t30 : w3.cell? ⟨w.heap.size, 0, none⟩ = some (.int .i64 t.terms) := HB3.out.2.cell 0
    have t31 : w3.cell? ⟨w.heap.size, 1, none⟩ = some (.int .i64 t.atom) := HB3.out.2.cell 1
    have t32 : w3.cell? ⟨w.heap.size, 2, none⟩ = some (.int .i64 t.opn) := HB3.out.2.cell 2
    have t33 : w3.cell? ⟨w.heap.size, 3, none⟩ = some (.int .i64 t.cls) := HB3.out.2.cell 3
    have t34 : w3.cell? ⟨w.heap.size, 4, none⟩ = some (.slice A t.levels.length c) := HB3.out.2.cell 4
    have hba3 : Below w3.heap.size w3 (w3.alloc (.cells #[.int .i64 0, .int .i64 0, .int .i64 0, .slice A3 n3 c3] 35)) := (Below.refl _ _).alloc (Nat.le_refl _) _
    have HBQ := Lib.hid (And.intro (bthen HB3.out.1 hba3 HB3.out.1.size) (And.intro (HB3.out.2.below hba3 HB3.out.2.lt) (And.intro (Blk'.new w3 35 #[.int .i64 0, .int .i64 0, .int .i64 0, .slice A3 n3 c3]) (HV3.out.2.2.below hba3))))
    have HEA := Lib.hid (HA.out.belowB HBQ.out.1 HS.out)
    have HSA : Hid (∀ b, S b → b < (w3.alloc (.cells #[.int .i64 0, .int .i64 0, .int .i64 0, .slice A3 n3 c3] 35)).heap.size) := Lib.hid (fun b hb => Nat.lt_of_lt_of_le (HS.out b hb) HBQ.out.1.size)
    clear hba3 HB3
    go_wp2_with fail
    refine (Layered_any t A c S _ H64.out hlc hc HEA.out HSA.out HN.out).mono ?_
    rintro e w4 ⟨s4, v4, rfl, hs4, hl4, hb4⟩
    rw [EY.out] at hs4 ⊢
    rw [EZ.out] at hl4
    dsimp only at hs4 ⊢
    obtain ⟨A4, n4, c4, hn4, rfl, hc4⟩ : ∃ A4 n4 c4, n4 = ([] : List Rule).length ∧ s4 = .slice A4 n4 c4 ∧ (([] : List Rule).length ≤ c4 ∧ c4 ≤ 9223372036854775807) := by obtain ⟨A, c, e, h1, h2, _⟩ := hs4.slice; exact ⟨A, _, c, rfl, e, h1, h2⟩
    obtain ⟨A5, n5, c5, hn5, rfl⟩ : ∃ A5 n5 c5, n5 = ([] : List Int).length ∧ v4 = .slice A5 n5 c5 := by obtain ⟨A, c, e, h1, h2, _⟩ := hl4.slice; exact ⟨A, _, c, rfl, e⟩
    have HV4 := Lib.hid (And.intro hn4 (And.intro hc4 (And.intro hs4.els.2.2.2 (And.intro hn5 hl4.els.2.2.2))))
    have HB4 := Lib.hid (And.intro (bthen HBQ.out.1 hb4 HBQ.out.1.size) (And.intro (HBQ.out.2.1.below hb4 HBQ.out.2.1.lt) (And.intro (HBQ.out.2.2.1.below hb4 HBQ.out.2.2.1.lt) (HBQ.out.2.2.2.below hb4))))
    clear hs4 hl4 hb4 hn4 hc4 hn5 HBQ HEA HSA t30 t31 t32 t33 t34 z3
    have z4 : w.heap.size < w4.heap.size := HB4.out.2.1.lt
    have z4g : w3.heap.size < w4.heap.size := HB4.out.2.2.1.lt
    have t40 : w4.cell? ⟨w.heap.size, 0, none⟩ = some (.int .i64 t.terms) := HB4.out.2.1.cell 0
    have t41 : w4.cell? ⟨w.heap.size, 1, none⟩ = some (.int .i64 t.atom) := HB4.out.2.1.cell 1
    have t42 : w4.cell? ⟨w.heap.size, 2, none⟩ = some (.int .i64 t.opn) := HB4.out.2.1.cell 2
    have t43 : w4.cell? ⟨w.heap.size, 3, none⟩ = some (.int .i64 t.cls) := HB4.out.2.1.cell 3
    have t44 : w4.cell? ⟨w.heap.size, 4, none⟩ = some (.slice A t.levels.length c) := HB4.out.2.1.cell 4
    have hba4 : Below w4.heap.size w4 (w4.alloc (.cells #[.int .i64 0, .int .i64 0, .int .i64 0, .slice A4 n4 c4] 35)) := (Below.refl _ _).alloc (Nat.le_refl _) _
    have HK := Lib.hid (And.intro (bthen HB4.out.1 hba4 HB4.out.1.size) (And.intro (HB4.out.2.1.below hba4 HB4.out.2.1.lt) (And.intro (HB4.out.2.2.1.below hba4 HB4.out.2.2.1.lt) (And.intro (HB4.out.2.2.2.below hba4) (And.intro (Blk'.new w4 35 #[.int .i64 0, .int .i64 0, .int .i64 0, .slice A4 n4 c4]) (And.intro (HV4.out.2.2.1.below hba4) (HV4.out.2.2.2.2.below hba4)))))))
    have HEA := Lib.hid (HA.out.belowB HK.out.1 HS.out)
    have HSA : Hid (∀ b, S b → b < (w4.alloc (.cells #[.int .i64 0, .int .i64 0, .int .i64 0, .slice A4 n4 c4] 35)).heap.size) := Lib.hid (fun b hb => Nat.lt_of_lt_of_le (HS.out b hb) HK.out.1.size)
    clear hba4 HB4
    go_wp2_with fail
    refine (precErr_any t A c S _ H64.out hlc hc HEA.out HSA.out HN.out).mono ?_
    rintro e w5 ⟨rfl, hb5⟩
    have HK5 := Lib.hid (keepK HK.out hb5)
    clear hb5 HK HEA HSA t40 t41 t42 t43 t44
    have z5 : w.heap.size < w5.heap.size := HK5.out.2.1.lt
    have t50 : w5.cell? ⟨w.heap.size, 0, none⟩ = some (.int .i64 t.terms) := HK5.out.2.1.cell 0
    have t51 : w5.cell? ⟨w.heap.size, 1, none⟩ = some (.int .i64 t.atom) := HK5.out.2.1.cell 1
    have t52 : w5.cell? ⟨w.heap.size, 2, none⟩ = some (.int .i64 t.opn) := HK5.out.2.1.cell 2
    have t53 : w5.cell? ⟨w.heap.size, 3, none⟩ = some (.int .i64 t.cls) := HK5.out.2.1.cell 3
    have t54 : w5.cell? ⟨w.heap.size, 4, none⟩ = some (.slice A t.levels.length c) := HK5.out.2.1.cell 4
    have HEA := Lib.hid (HA.out.belowB HK5.out.1 HS.out)
    have HSA : Hid (∀ b, S b → b < w5.heap.size) := Lib.hid (fun b hb => Nat.lt_of_lt_of_le (HS.out b hb) HK5.out.1.size)
    go_wp2_with fail
    refine (precCheck_any t A c S _ H64.out hlc hc HEA.out HSA.out HN.out).mono ?_
    rintro e w6 ⟨rfl, hb6⟩
    have HK6 := Lib.hid (keepK HK5.out hb6)
    clear hb6 HK5 HEA HSA t50 t51 t52 t53 t54 z5
    have g60 : w6.cell? ⟨w3.heap.size, 0, none⟩ = some (.int .i64 0) := HK6.out.2.2.1.cell 0
    have g61 : w6.cell? ⟨w3.heap.size, 1, none⟩ = some (.int .i64 0) := HK6.out.2.2.1.cell 1
    have g62 : w6.cell? ⟨w3.heap.size, 2, none⟩ = some (.int .i64 0) := HK6.out.2.2.1.cell 2
    have g63 : w6.cell? ⟨w3.heap.size, 3, none⟩ = some (.slice A3 n3 c3) := HK6.out.2.2.1.cell 3
    go_wp2_with fail
    refine (sg_any_true zeroG n3 0 A3 none c3 0 _ (fun _ => False) _ HV3.out.1 rfl ⟨by simp [zeroG], HV3.out.2.1.2⟩ (by decide) HK6.out.2.2.2.1 (fun h => absurd rfl h)).mono ?_
    rintro e w7 ⟨rfl, hb7⟩
    have HK7 := Lib.hid (keepK HK6.out hb7)
    have h70 : w7.cell? ⟨w4.heap.size, 0, none⟩ = some (.int .i64 0) := HK7.out.2.2.2.2.1.cell 0
    have h71 : w7.cell? ⟨w4.heap.size, 1, none⟩ = some (.int .i64 0) := HK7.out.2.2.2.2.1.cell 1
    have h72 : w7.cell? ⟨w4.heap.size, 2, none⟩ = some (.int .i64 0) := HK7.out.2.2.2.2.1.cell 2
    have h73 : w7.cell? ⟨w4.heap.size, 3, none⟩ = some (.slice A4 n4 c4) := HK7.out.2.2.2.2.1.cell 3
    clear hb7 HK6 g60 g61 g62 g63
    go_wp2_with fail
    refine (sg_any_true zeroG n4 0 A4 none c4 0 _ (fun _ => False) _ HV4.out.1 rfl ⟨by simp [zeroG], HV4.out.2.1.2⟩ (by decide) HK7.out.2.2.2.2.2.1 (fun h => absurd rfl h)).mono ?_
    rintro e w8 ⟨rfl, hb8⟩
    have HK8 := Lib.hid (keepK HK7.out hb8)
    clear hb8 HK7 h70 h71 h72 h73
    obtain rfl : n5 = 0 := HV4.out.2.2.2.1
    go_wp2
    go_ret
    exact ⟨rfl, HK8.out.1⟩

theorem blkAll_ints : ∀ (l : List Int), blkAll l = l.length
  | [] => rfl
  | x :: l => by rw [blkAll, blkAll_ints l, List.length_cons]; show 1 + _ = _; omega
theorem blkAll_levels : ∀ (l : List Level), ((l.map Level.ops).flatten).length ≤ blkAll l
  | [] => Nat.le_refl _
  | x :: l => by
    have h1 := blkAll_levels l
    have h2 : Blk.blk x = 2 + (blkAll x.ops + 1) := rfl
    rw [blkAll_ints] at h2
    simp only [List.map_cons, List.flatten_cons, List.length_append, blkAll]
    omega
theorem precTables_row (t : Table) (v : Value) (W : World) (ht : Vl W (OldS W) t v) (hk : Blk.blk t + 0 ≤ 1048576) :
    Calls Try.prog 5 #[v] W fun e W' => e = .returned (.bool true) ∧ Below W.heap.size W W' := by
  obtain ⟨s, rfl, h1, h2, h3, h4, hs⟩ := ht.table
  obtain ⟨A, c, rfl, hc1, hc2, hA⟩ := hs.slice
  refine precTables_any t A c (OldS W) W ⟨h1, h2, h3, h4⟩ hc1 hc2 hA (fun b h => h) ?_
  have e1 : Blk.blk t = 5 + (blkAll t.levels + 1) := rfl
  have e2 := blkAll_levels t.levels
  have h5 : (allOps t).length ≤ 2 + ((t.levels.map Level.ops).flatten).length := by
    simp only [allOps, List.length_append]
    split <;> simp only [List.length_cons, List.length_nil] <;> omega
  omega
end Go.Proofs.Ytmfakaicgbpmfaa
