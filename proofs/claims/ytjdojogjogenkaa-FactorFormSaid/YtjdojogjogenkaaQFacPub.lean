/- Contract: factor.Of of a valid grammar. -/
import Derived.Test.YtjdojogjogenkaaQFacOf
namespace Go.Proofs.Ytjdojogjogenkaa
open Go.RowKit
set_option linter.unusedVariables false
def RetFacP (g : Gram) (w : World) (e : Ending) (w' : World) : Prop :=
 (∃ k, FacBad g k ∧ e = .returned (.tuple #[.agg #[.int .i64 0, .int .i64 0, .int .i64 0, .slice none 0 0], .int .i64 k]) ∧ Below w.heap.size w w') ∨
 ∃ (ss : List StepR) (h : Gram) (A1 : Option Addr) (c1 : Nat), FacRun g ss h ∧ checkI h = 0 ∧ NoNext h ∧ e = .returned (.tuple #[.agg #[.int .i64 h.terms, .int .i64 h.nons, .int .i64 h.start, .slice A1 h.rules.length c1], .int .i64 0]) ∧
  h.rules.length ≤ c1 ∧ c1 ≤ 9223372036854775807 ∧ Els w' (fun b => w.heap.size ≤ b ∧ b < w'.heap.size) h.rules A1 ∧ Below w.heap.size w w'
set_option maxRecDepth 100000 in
set_option maxHeartbeats 4000000 in
theorem facPub_any (g : Gram) (n : Nat) (A : Option Addr) (c : Nat) (S : Nat → Prop) (w : World) (hgn : g.nons = (n : Int)) (hck : checkI g = 0) (hlc : g.rules.length ≤ c) (hc : c ≤ 9223372036854775807) (hA : Els w S g.rules A) (hS : ∀ b, S b → b < w.heap.size) :
  Calls Try.prog 6 #[.agg #[.int .i64 g.terms, .int .i64 g.nons, .int .i64 g.start, .slice A g.rules.length c]] w (RetFacP g w) := by
 obtain ⟨gt, gn, gs, rs⟩ := g
 dsimp only at *
 subst hgn
 have HCk := Lib.hid hck
 have HLc := Lib.hid (And.intro hlc hc)
 have HS := Lib.hid hS
 obtain ⟨w0, hw0⟩ : ∃ q : World, q = (w.alloc (.cells #[.int .i64 gt, .int .i64 (n : Int), .int .i64 gs, .slice A rs.length c] 25)).alloc (.cells #[.int .i64 0, .int .i64 0, .int .i64 0, .slice none 0 0] 25) := ⟨_, rfl⟩
 have HW0 := Lib.hid hw0
 have HB0 : Hid (Below w.heap.size w w0) := Lib.hid (by rw [hw0]; exact ((Below.refl _ _).alloc (Nat.le_refl _) _).alloc (by simp) _)
 have HG0 : Hid (Blk' w0 w.heap.size 25 #[.int .i64 gt, .int .i64 (n : Int), .int .i64 gs, .slice A rs.length c]) := Lib.hid (by rw [hw0]; exact (Blk'.new _ _ _).alloc _)
 have HR0 : Hid (Blk' w0 (w.heap.size + 1) 25 #[.int .i64 0, .int .i64 0, .int .i64 0, .slice none 0 0]) := Lib.hid (by rw [hw0]; exact Blk'.new' _ _ _ (by simp))
 have HA0 := Lib.hid (hA.below HB0.out)
 have zz0 : w.heap.size + 1 + 1 ≤ w0.heap.size := by rw [hw0]; simp
 clear hw0 hA hck hlc hc hS
 go_enter Try.func6, Try.ntmps6
 go_upto_region 1 with (fail)
 rw [← HW0.out]
 have g0 : w0.cell? ⟨w.heap.size, 0, none⟩ = some (.int .i64 gt) := HG0.out.cell 0
 have g1 : w0.cell? ⟨w.heap.size, 1, none⟩ = some (.int .i64 (n : Int)) := HG0.out.cell 1
 have g2 : w0.cell? ⟨w.heap.size, 2, none⟩ = some (.int .i64 gs) := HG0.out.cell 2
 have g3 : w0.cell? ⟨w.heap.size, 3, none⟩ = some (.slice A rs.length c) := HG0.out.cell 3
 have zg := HG0.out.lt
 go_wp2_with fail
 refine (facOf_any ⟨gt, (n : Int), gs, rs⟩ n A c S w0 rfl HCk.out HLc.out.1 HLc.out.2 HA0.out (fun b hb => by have := HS.out b hb; omega)).mono ?_
 rintro e w1 (⟨k, hbad, rfl, hb1⟩ | ⟨ss, h, A1, c1, v, hrun, hch, hno, rfl, hl1, hc1, hE, hss, hb1⟩)
 ·have HB1 := Lib.hid (bthen HB0.out hb1 HB0.out.size)
  have HR1 := Lib.hid (HR0.out.below hb1 HR0.out.lt)
  have zz1 : w0.heap.size ≤ w1.heap.size := hb1.size
  clear hb1
  clear g0 g1 g2 g3 zg
  have hne : (k != 0) = true := by simp [hbad.ne]
  have HBad := Lib.hid hbad
  clear hbad
  obtain ⟨w2, hw2⟩ : ∃ q : World, q = w1.alloc (.cells #[.int .i64 0, .int .i64 0, .int .i64 0, .slice none 0 0] 25) := ⟨_, rfl⟩
  have HW2 := Lib.hid hw2
  have hb2 : Below w1.heap.size w1 w2 := by rw [hw2]; exact (Below.refl _ _).alloc (Nat.le_refl _) _
  have HX2 : Hid (Blk' w2 w1.heap.size 25 #[.int .i64 0, .int .i64 0, .int .i64 0, .slice none 0 0]) := Lib.hid (by rw [hw2]; exact Blk'.new _ _ _)
  have HR2 := Lib.hid (HR1.out.below hb2 HR1.out.lt)
  have HB2 := Lib.hid (bthen HB1.out hb2 HB1.out.size)
  have HD2 := Lib.hid hb2
  have zz2 : w1.heap.size < w2.heap.size := HX2.out.lt
  clear hw2 hb2 HR1
  go_upto_region 2 with (fail)
  rw [← HW2.out]
  have r0 : w2.cell? ⟨w.heap.size + 1, 0, none⟩ = some (.int .i64 0) := HR2.out.cell 0
  have fr0 := HR2.out.frozen 0
  have r1 : w2.cell? ⟨w.heap.size + 1, 1, none⟩ = some (.int .i64 0) := HR2.out.cell 1
  have fr1 := HR2.out.frozen 1
  have r2 : w2.cell? ⟨w.heap.size + 1, 2, none⟩ = some (.int .i64 0) := HR2.out.cell 2
  have fr2 := HR2.out.frozen 2
  have r3 : w2.cell? ⟨w.heap.size + 1, 3, none⟩ = some (.slice none 0 0) := HR2.out.cell 3
  have fr3 := HR2.out.frozen 3
  have zr := HR2.out.lt
  go_wp2_with fail
  generalize hwF : World.setCell _ _ _ = wF
  obtain ⟨hRF, kF⟩ := set4F HR2.out (.int .i64 0) (.int .i64 0) (.int .i64 0) (.slice none 0 0)
  rw [hwF] at hRF kF
  have u0 : wF.cell? ⟨w.heap.size + 1, 0, none⟩ = some (.int .i64 0) := hRF.cell 0
  have u1 : wF.cell? ⟨w.heap.size + 1, 1, none⟩ = some (.int .i64 0) := hRF.cell 1
  have u2 : wF.cell? ⟨w.heap.size + 1, 2, none⟩ = some (.int .i64 0) := hRF.cell 2
  have u3 : wF.cell? ⟨w.heap.size + 1, 3, none⟩ = some (.slice none 0 0) := hRF.cell 3
  have zF := kF.size
  refine bodyPost_ret (v := .tuple #[.agg #[.int .i64 0, .int .i64 0, .int .i64 0, .slice none 0 0], .int .i64 k]) (by simp [results, Try.results6, go_sem, u0, u1, u2, u3]) rfl ?_
  exact .inl ⟨k, HBad.out, rfl, HB2.out.trans (kF.to_below (B := w.heap.size) (fun b hb => by omega) HB2.out.size)⟩
 ·have HB1 := Lib.hid (bthen HB0.out hb1 HB0.out.size)
  have HR1 := Lib.hid (HR0.out.below hb1 HR0.out.lt)
  have zz1 : w0.heap.size ≤ w1.heap.size := hb1.size
  clear hb1
  clear g0 g1 g2 g3 zg
  have HRun := Lib.hid (And.intro hrun (And.intro hch hno))
  have hvh := validG_of hch
  obtain ⟨Av, cv, rfl, _⟩ := hss.form
  have HL1 := Lib.hid (And.intro hl1 hc1)
  have HE1 := Lib.hid hE
  have HVh := Lib.hid hvh
  obtain ⟨ht, hn_, hs_, hrs⟩ := h
  dsimp only at *
  clear hrun hch hno hvh hl1 hc1 hE hss
  obtain ⟨w2, hw2⟩ : ∃ q : World, q = w1.alloc (.cells #[.int .i64 ht, .int .i64 hn_, .int .i64 hs_, .slice A1 hrs.length c1] 25) := ⟨_, rfl⟩
  have HW2 := Lib.hid hw2
  have hb2 : Below w1.heap.size w1 w2 := by rw [hw2]; exact (Below.refl _ _).alloc (Nat.le_refl _) _
  have HX2 : Hid (Blk' w2 w1.heap.size 25 #[.int .i64 ht, .int .i64 hn_, .int .i64 hs_, .slice A1 hrs.length c1]) := Lib.hid (by rw [hw2]; exact Blk'.new _ _ _)
  have HR2 := Lib.hid (HR1.out.below hb2 HR1.out.lt)
  have HB2 := Lib.hid (bthen HB1.out hb2 HB1.out.size)
  have HD2 := Lib.hid hb2
  have zz2 : w1.heap.size < w2.heap.size := HX2.out.lt
  clear hw2 hb2 HR1
  go_upto_region 2 with (fail)
  rw [← HW2.out]
  have x0 : w2.cell? ⟨w1.heap.size, 0, none⟩ = some (.int .i64 ht) := HX2.out.cell 0
  have x1 : w2.cell? ⟨w1.heap.size, 1, none⟩ = some (.int .i64 hn_) := HX2.out.cell 1
  have x2 : w2.cell? ⟨w1.heap.size, 2, none⟩ = some (.int .i64 hs_) := HX2.out.cell 2
  have x3 : w2.cell? ⟨w1.heap.size, 3, none⟩ = some (.slice A1 hrs.length c1) := HX2.out.cell 3
  have zx := HX2.out.lt
  go_wp2_with fail
  refine (copyG_any ht hn_ hs_ hrs A1 c1 (fun b => w0.heap.size + 1 + 1 ≤ b ∧ b < w1.heap.size) w2 (by have := HVh.out.len; (try dsimp only at this); omega) (fun q hq => by have := (HVh.out.rules q hq).2.2.1; omega) HL1.out.1 HL1.out.2 ((HE1.out.below HD2.out).keep (fun _ _ _ => rfl) (fun b hb => by first | exact hb | (have h1 := hb; constructor <;> omega))) (fun b hb => by have := hb.2; omega)).mono ?_
  rintro e w3 ⟨v3, rfl, hown3, hb3⟩
  obtain ⟨A3, c3, rfl, hl3, hc3, _⟩ := hown3.form
  clear x0 x1 x2 x3 zx
  have HR3 := Lib.hid (HR2.out.below hb3 HR2.out.lt)
  have HB3 := Lib.hid (bthen HB2.out hb3 HB2.out.size)
  have HL3 := Lib.hid (And.intro hl3 hc3)
  have HE3 := Lib.hid hown3.vl.els.2.2.2
  have zz3 : w2.heap.size ≤ w3.heap.size := hb3.size
  clear hb3 hown3 hl3 hc3
  have r0 : w3.cell? ⟨w.heap.size + 1, 0, none⟩ = some (.int .i64 0) := HR3.out.cell 0
  have fr0 := HR3.out.frozen 0
  have r1 : w3.cell? ⟨w.heap.size + 1, 1, none⟩ = some (.int .i64 0) := HR3.out.cell 1
  have fr1 := HR3.out.frozen 1
  have r2 : w3.cell? ⟨w.heap.size + 1, 2, none⟩ = some (.int .i64 0) := HR3.out.cell 2
  have fr2 := HR3.out.frozen 2
  have r3 : w3.cell? ⟨w.heap.size + 1, 3, none⟩ = some (.slice none 0 0) := HR3.out.cell 3
  have fr3 := HR3.out.frozen 3
  have zr := HR3.out.lt
  go_wp2_with fail
  generalize hwF : World.setCell _ _ _ = wF
  obtain ⟨hRF, kF⟩ := set4F HR3.out (.int .i64 ht) (.int .i64 hn_) (.int .i64 hs_) (.slice A3 hrs.length c3)
  rw [hwF] at hRF kF
  have u0 : wF.cell? ⟨w.heap.size + 1, 0, none⟩ = some (.int .i64 ht) := hRF.cell 0
  have u1 : wF.cell? ⟨w.heap.size + 1, 1, none⟩ = some (.int .i64 hn_) := hRF.cell 1
  have u2 : wF.cell? ⟨w.heap.size + 1, 2, none⟩ = some (.int .i64 hs_) := hRF.cell 2
  have u3 : wF.cell? ⟨w.heap.size + 1, 3, none⟩ = some (.slice A3 hrs.length c3) := hRF.cell 3
  have zF := kF.size
  refine bodyPost_ret (v := .tuple #[.agg #[.int .i64 ht, .int .i64 hn_, .int .i64 hs_, .slice A3 hrs.length c3], .int .i64 0]) (by simp [results, Try.results6, go_sem, u0, u1, u2, u3]) rfl ?_
  exact .inr ⟨ss, ⟨ht, hn_, hs_, hrs⟩, A3, c3, HRun.out.1, HRun.out.2.1, HRun.out.2.2, rfl, HL3.out.1, HL3.out.2, (HE3.out.kept kF (fun b hb h => by rcases hb.1 with h1 | h1; exact h1; omega)).keep (fun _ _ _ => rfl) (fun b hb => by have h2 := hb.2; rcases hb.1 with h1 | h1; exact h1.elim; constructor <;> omega), HB3.out.trans (kF.to_below (B := w.heap.size) (fun b hb => by omega) HB3.out.size)⟩
end Go.Proofs.Ytjdojogjogenkaa
