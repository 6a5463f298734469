/- Contract: prec.Climb, of a table or a word that is not valid. -/
import Derived.Test.YtpcjfgikicpioaaQClimb
namespace Go.Proofs.Ytpcjfgikicpioaa
open Go.RowKit
set_option linter.unusedVariables false

def climbE (t : Table) (l : List Int) : Int := if precCheck t ≠ 0 then precCheck t else wordE t.terms l 500
set_option maxRecDepth 100000 in
set_option maxHeartbeats 4000000 in
theorem climbBad_any (t : Table) (l : List Int) (A B : Option Addr) (c d : Nat) (S S' : Nat → Prop) (w : World) (h64 : I64 t.terms ∧ I64 t.atom ∧ I64 t.opn ∧ I64 t.cls) (hlc : t.levels.length ≤ c) (hc : c ≤ 9223372036854775807) (hA : Els w S t.levels A) (hS : ∀ b, S b → b < w.heap.size)
    (hB : Els w S' l B) (hS' : ∀ b, S' b → b < w.heap.size) (h0 : climbE t l ≠ 0) (hN : (allOps t).length ≤ 2000000) (hld : l.length ≤ d) (hd : d ≤ 9223372036854775807) :
    Calls Try.prog 6 #[.agg #[.int .i64 t.terms, .int .i64 t.atom, .int .i64 t.opn, .int .i64 t.cls, .slice A t.levels.length c], .slice B l.length d] w fun e w' => e = .returned (.tuple #[.agg #[.int .i64 0, .int .i64 0, .slice none 0 0], .int .i64 0, .int .i64 (climbE t l)]) ∧ Below w.heap.size w w' := by
  have HN := Lib.hid hN
  clear hN
  obtain ⟨w0, hw0⟩ : ∃ w0 : World, w0 = (((w.alloc (.cells #[.int .i64 t.terms, .int .i64 t.atom, .int .i64 t.opn, .int .i64 t.cls, .slice A t.levels.length c] 24)).alloc (.cells #[.int .i64 0, .int .i64 0, .slice none 0 0] 28)).alloc (.cells #[.int .i64 0] 3)).alloc (.cells #[.int .i64 0] 29) := ⟨_, rfl⟩
  have hb0 : Below w.heap.size w w0 := by rw [hw0]; exact ((((Below.refl _ _).alloc (Nat.le_refl _) _).alloc (by simp) _).alloc (by simp; omega) _).alloc (by simp; omega) _
  have hT0 : Blk' w0 w.heap.size 24 #[.int .i64 t.terms, .int .i64 t.atom, .int .i64 t.opn, .int .i64 t.cls, .slice A t.levels.length c] := by rw [hw0]; exact (((Blk'.new w _ _).alloc _).alloc _).alloc _
  have hR0 : Blk' w0 (w.heap.size + 1) 28 #[.int .i64 0, .int .i64 0, .slice none 0 0] := by rw [hw0]; exact ((Blk'.new' _ _ _ (by simp)).alloc _).alloc _
  have hP0 : Blk' w0 (w.heap.size + 1 + 1) 3 #[.int .i64 0] := by rw [hw0]; exact (Blk'.new' _ _ _ (by simp)).alloc _
  have hE0 : Blk' w0 (w.heap.size + 1 + 1 + 1) 29 #[.int .i64 0] := by rw [hw0]; exact Blk'.new' _ _ _ (by simp)
  have H0 := Lib.hid (And.intro hb0 (And.intro hT0 (And.intro hR0 (And.intro hP0 (And.intro hE0 (And.intro (hA.below hb0) (hB.below hb0)))))))
  have HW0 := Lib.hid hw0
  have HS := Lib.hid hS
  have HS' := Lib.hid hS'
  have H64 := Lib.hid h64
  have HC0 := Lib.hid h0
  have t0 : w0.cell? ⟨w.heap.size, 0, none⟩ = some (.int .i64 t.terms) := hT0.cell 0
  have t1 : w0.cell? ⟨w.heap.size, 1, none⟩ = some (.int .i64 t.atom) := hT0.cell 1
  have t2 : w0.cell? ⟨w.heap.size, 2, none⟩ = some (.int .i64 t.opn) := hT0.cell 2
  have t3 : w0.cell? ⟨w.heap.size, 3, none⟩ = some (.int .i64 t.cls) := hT0.cell 3
  have t4 : w0.cell? ⟨w.heap.size, 4, none⟩ = some (.slice A t.levels.length c) := hT0.cell 4
  clear hw0 hb0 hT0 hR0 hP0 hE0 hA hB hS hS' h64 h0
  go_enter_defers Try.func6, Try.ntmps6
  go_upto_region 1 with (fail)
  rw [← HW0.out]
  go_wp2_with fail
  refine (precCheck_any t A c S _ H64.out hlc (by omega) H0.out.2.2.2.2.2.1 (fun b hb => Nat.lt_of_lt_of_le (HS.out b hb) H0.out.1.size) HN.out).mono ?_
  rintro e w1 ⟨rfl, hb1⟩
  by_cases hp : precCheck t = 0
  rotate_left
  · obtain ⟨E, hE⟩ : ∃ E : Int, E = precCheck t := ⟨_, rfl⟩
    have HEc := Lib.hid (show climbE t l = E by unfold climbE; rw [if_pos hp, hE])
    rw [← hE] at hp ⊢
    have e0 : (E != 0) = true := by simp [hp]
    have H1 := And.intro (bthen H0.out.1 hb1 H0.out.1.size) (And.intro (H0.out.2.1.below hb1 H0.out.2.1.lt) (And.intro (H0.out.2.2.1.below hb1 H0.out.2.2.1.lt) (And.intro (H0.out.2.2.2.1.below hb1 H0.out.2.2.2.1.lt) (H0.out.2.2.2.2.1.below hb1 H0.out.2.2.2.2.1.lt))))
    have H1 := Lib.hid (show _ ∧ _ ∧ _ ∧ _ ∧ _ ∧ True from ⟨H1.1, H1.2.1, H1.2.2.1, H1.2.2.2.1, H1.2.2.2.2, trivial⟩)
    clear hb1 t0 t1 t2 t3 t4 hE hp
    have r0 : w1.cell? ⟨w.heap.size + 1, 0, none⟩ = some (.int .i64 0) := H1.out.2.2.1.cell 0
    have r1 : w1.cell? ⟨w.heap.size + 1, 1, none⟩ = some (.int .i64 0) := H1.out.2.2.1.cell 1
    have r2 : w1.cell? ⟨w.heap.size + 1, 2, none⟩ = some (.slice none 0 0) := H1.out.2.2.1.cell 2
    have r3 : w1.cell? ⟨w.heap.size + 1 + 1, 0, none⟩ = some (.int .i64 0) := H1.out.2.2.2.1.cell 0
    have r4 : w1.cell? ⟨w.heap.size + 1 + 1 + 1, 0, none⟩ = some (.int .i64 0) := H1.out.2.2.2.2.1.cell 0
    have f0 : w1.frozen? ⟨w.heap.size + 1, 0, none⟩ = false := H1.out.2.2.1.frozen 0
    have f1 : w1.frozen? ⟨w.heap.size + 1, 1, none⟩ = false := H1.out.2.2.1.frozen 1
    have f2 : w1.frozen? ⟨w.heap.size + 1, 2, none⟩ = false := H1.out.2.2.1.frozen 2
    have f3 : w1.frozen? ⟨w.heap.size + 1 + 1, 0, none⟩ = false := H1.out.2.2.2.1.frozen 0
    have f4 : w1.frozen? ⟨w.heap.size + 1 + 1 + 1, 0, none⟩ = false := H1.out.2.2.2.2.1.frozen 0
    have z0 : w.heap.size + 1 < w1.heap.size := H1.out.2.2.1.lt
    have z1 : w.heap.size + 1 + 1 < w1.heap.size := H1.out.2.2.2.1.lt
    have z2 : w.heap.size + 1 + 1 + 1 < w1.heap.size := H1.out.2.2.2.2.1.lt
    have kA : Kept (fun b => b = w.heap.size + 1) w1 (((w1.setCell ⟨w.heap.size + 1, 0, none⟩ (.int .i64 0)).setCell ⟨w.heap.size + 1, 1, none⟩ (.int .i64 0)).setCell ⟨w.heap.size + 1, 2, none⟩ (.slice none 0 0)) := (((Kept.refl (fun b => b = w.heap.size + 1) w1).setCell (p := ⟨w.heap.size + 1, 0, none⟩) (.inl rfl) _).setCell (p := ⟨w.heap.size + 1, 1, none⟩) (.inl rfl) _).setCell (p := ⟨w.heap.size + 1, 2, none⟩) (.inl rfl) _
    have hTE := ((H1.out.2.2.1.set_ 0 (.int .i64 0)).set_ 1 (.int .i64 0)).set_ 2 (.slice none 0 0)
    have hPE := (H1.out.2.2.2.1.kept kA (by omega)).set_ 0 (.int .i64 0)
    have hEE := H1.out.2.2.2.2.1.kept kA (by omega)
    obtain ⟨wX, hwX⟩ : ∃ wX : World, wX = ((w1.setCell ⟨w.heap.size + 1, 0, none⟩ (.int .i64 0)).setCell ⟨w.heap.size + 1, 1, none⟩ (.int .i64 0)).setCell ⟨w.heap.size + 1, 2, none⟩ (.slice none 0 0) := ⟨_, rfl⟩
    rw [← hwX] at kA hTE hPE hEE
    have kB : Kept (fun b => b = w.heap.size + 1 + 1) wX (wX.setCell ⟨w.heap.size + 1 + 1, 0, none⟩ (.int .i64 0)) := (Kept.refl (fun b => b = w.heap.size + 1 + 1) wX).setCell (p := ⟨w.heap.size + 1 + 1, 0, none⟩) (.inl rfl) _
    have hTE2 := hTE.kept kB (by omega)
    have hEE2 := (hEE.kept kB (by omega)).set_ 0 (.int .i64 E)
    obtain ⟨wY, hwY⟩ : ∃ wY : World, wY = wX.setCell ⟨w.heap.size + 1 + 1, 0, none⟩ (.int .i64 0) := ⟨_, rfl⟩
    rw [← hwY] at kB hPE hTE2 hEE2
    have kC : Kept (fun b => b = w.heap.size + 1 + 1 + 1) wY (wY.setCell ⟨w.heap.size + 1 + 1 + 1, 0, none⟩ (.int .i64 E)) := (Kept.refl (fun b => b = w.heap.size + 1 + 1 + 1) wY).setCell (p := ⟨w.heap.size + 1 + 1 + 1, 0, none⟩) (.inl rfl) _
    have hTE3 := hTE2.kept kC (by omega)
    have hPE3 := hPE.kept kC (by omega)
    obtain ⟨wE, hwE⟩ : ∃ wE : World, wE = wY.setCell ⟨w.heap.size + 1 + 1 + 1, 0, none⟩ (.int .i64 E) := ⟨_, rfl⟩
    rw [← hwE] at hTE3 hPE3 kC hEE2
    have HEnd := Lib.hid (((H1.out.1.trans (kA.to_below (B := w.heap.size) (fun b (hb : b = w.heap.size + 1) => by omega) H1.out.1.size)).trans (kB.to_below (B := w.heap.size) (fun b (hb : b = w.heap.size + 1 + 1) => by omega) (by have := H1.out.1.size; have := kA.size; omega))).trans (kC.to_below (B := w.heap.size) (fun b (hb : b = w.heap.size + 1 + 1 + 1) => by omega) (by have := H1.out.1.size; have := kA.size; have := kB.size; omega)))
    have u0 : wE.cell? ⟨w.heap.size + 1, 0, none⟩ = some (.int .i64 0) := hTE3.cell 0
    have u1 : wE.cell? ⟨w.heap.size + 1, 1, none⟩ = some (.int .i64 0) := hTE3.cell 1
    have u2 : wE.cell? ⟨w.heap.size + 1, 2, none⟩ = some (.slice none 0 0) := hTE3.cell 2
    have u3 : wE.cell? ⟨w.heap.size + 1 + 1, 0, none⟩ = some (.int .i64 0) := hPE3.cell 0
    have u4 : wE.cell? ⟨w.heap.size + 1 + 1 + 1, 0, none⟩ = some (.int .i64 E) := hEE2.cell 0
    have HX := Lib.hid hwX
    have HY := Lib.hid hwY
    have HE := Lib.hid hwE
    clear hwX hwY hwE kA kB kC hTE hPE hEE hTE2 hEE2 hTE3 hPE3
    have HU := Lib.hid (And.intro u0 (And.intro u1 (And.intro u2 (And.intro u3 u4))))
    clear u0 u1 u2 u3 u4
    go_wp2
    rw [← HX.out, ← HY.out, ← HE.out]
    obtain ⟨u0, u1, u2, u3, u4⟩ := HU.out
    simp [bodyPostD, Leaves, settle, results, Try.results6, go_sem, u0, u1, u2, u3, u4]
    exact ⟨HEc.out.symm, HEnd.out⟩
  have V := Lib.hid (valid_of hp)
  obtain ⟨E, hE⟩ : ∃ E : Int, E = wordE t.terms l 500 := ⟨_, rfl⟩
  have HEc := Lib.hid (show climbE t l = E by unfold climbE; rw [if_neg (fun h => h hp), hE])
  have hE0 : E ≠ 0 := by rw [← HEc.out]; exact HC0.out
  have HEW := Lib.hid hE
  have e0 : (E != 0) = true := by simp [hE0]
  rw [hp]
  clear hp hE hE0
  have H1 := Lib.hid (And.intro (bthen H0.out.1 hb1 H0.out.1.size) (And.intro (H0.out.2.1.below hb1 H0.out.2.1.lt) (And.intro (H0.out.2.2.1.below hb1 H0.out.2.2.1.lt) (And.intro (H0.out.2.2.2.1.below hb1 H0.out.2.2.2.1.lt) (And.intro (H0.out.2.2.2.2.1.below hb1 H0.out.2.2.2.2.1.lt) (And.intro (H0.out.2.2.2.2.2.1.below hb1) (H0.out.2.2.2.2.2.2.below hb1)))))))
  clear hb1 t0 t1 t2 t3 t4 H0
  have t0 : w1.cell? ⟨w.heap.size, 0, none⟩ = some (.int .i64 t.terms) := H1.out.2.1.cell 0
  have t1 : w1.cell? ⟨w.heap.size, 1, none⟩ = some (.int .i64 t.atom) := H1.out.2.1.cell 1
  have t2 : w1.cell? ⟨w.heap.size, 2, none⟩ = some (.int .i64 t.opn) := H1.out.2.1.cell 2
  have t3 : w1.cell? ⟨w.heap.size, 3, none⟩ = some (.int .i64 t.cls) := H1.out.2.1.cell 3
  have t4 : w1.cell? ⟨w.heap.size, 4, none⟩ = some (.slice A t.levels.length c) := H1.out.2.1.cell 4
  go_wp2_with fail
  refine (flat_any t A c S _ H64.out hlc (by omega) H1.out.2.2.2.2.2.1 (fun b hb => Nat.lt_of_lt_of_le (HS.out b hb) H1.out.1.size) (V.out.small true).1).mono ?_
  rintro e w2 ⟨v1, v2, rfl, h2, hb2⟩
  obtain ⟨A1, n1, q1, e1, hn1, hq1, hm1⟩ : ∃ A n c, v1 = Value.slice A n c ∧ n = (flatRules t).length ∧ n ≤ c ∧ c ≤ 9223372036854775807 := by obtain ⟨A, c, e, h1, h2, _⟩ := h2.1.form; exact ⟨_, _, _, e, rfl, h1, h2⟩
  obtain ⟨A2, n2, q2, e2, hn2, hq2, hm2⟩ : ∃ A n c, v2 = Value.slice A n c ∧ n = (flatLev t).length ∧ n ≤ c ∧ c ≤ 9223372036854775807 := by obtain ⟨A, c, e, h1, h2, _⟩ := h2.2.1.form; exact ⟨_, _, _, e, rfl, h1, h2⟩
  subst e1; subst e2
  have HV := Lib.hid (And.intro h2.vl1 h2.vl2)
  clear t0 t1 t2 t3 t4
  subst hn1; subst hn2
  obtain ⟨w3, hw3⟩ : ∃ w3 : World, w3 = w2.alloc (.cells #[.int .i64 t.terms, .int .i64 1, .int .i64 0, .slice A1 (flatRules t).length q1] 37) := ⟨_, rfl⟩
  have HW3 := Lib.hid hw3
  have hb3 : Below w2.heap.size w2 w3 := by rw [hw3]; exact (Below.refl _ _).alloc (Nat.le_refl _) _
  have hG3 : Blk' w3 w2.heap.size 37 #[.int .i64 t.terms, .int .i64 1, .int .i64 0, .slice A1 (flatRules t).length q1] := by rw [hw3]; exact Blk'.new w2 _ _
  have hb23 : Below w1.heap.size w1 w3 := bthen hb2 hb3 hb2.size
  have HR3 := Lib.hid (And.intro (HV.out.1.els.2.2.2.below hb3) (HV.out.2.els.2.2.2.below hb3))
  have hz12 : w1.heap.size ≤ w2.heap.size := hb2.size
  have H3 := Lib.hid (And.intro (bthen H1.out.1 hb23 H1.out.1.size) (And.intro (H1.out.2.1.below hb23 H1.out.2.1.lt) (And.intro (H1.out.2.2.1.below hb23 H1.out.2.2.1.lt) (And.intro (H1.out.2.2.2.1.below hb23 H1.out.2.2.2.1.lt) (And.intro (H1.out.2.2.2.2.1.below hb23 H1.out.2.2.2.2.1.lt) (And.intro (H1.out.2.2.2.2.2.1.below hb23) (And.intro (H1.out.2.2.2.2.2.2.below hb23) hG3)))))))
  have g0 : w3.cell? ⟨w2.heap.size, 0, none⟩ = some (.int .i64 t.terms) := hG3.cell 0
  have g1 : w3.cell? ⟨w2.heap.size, 1, none⟩ = some (.int .i64 1) := hG3.cell 1
  have g2 : w3.cell? ⟨w2.heap.size, 2, none⟩ = some (.int .i64 0) := hG3.cell 2
  have g3 : w3.cell? ⟨w2.heap.size, 3, none⟩ = some (.slice A1 (flatRules t).length q1) := hG3.cell 3
  have hz1 : w.heap.size + 1 + 1 + 1 < w1.heap.size := H1.out.2.2.2.2.1.lt
  clear h2 hb2 hw3 hb3 hG3 hb23 HV H1
  go_upto_region 5 with (fail)
  rw [← HW3.out]
  go_wp2_with fail
  refine (word_any t.terms 1 0 500 _ l B d S' w3 (by omega) H3.out.2.2.2.2.2.2.1 (fun b hb => by have h1 := HS'.out b hb; have h2 := H3.out.1.size; omega) ⟨_, _, _, rfl⟩).mono ?_
  rintro e w4 ⟨rfl, hb4⟩
  rw [← HEW.out]
  have H4 := And.intro (bthen H3.out.1 hb4 H3.out.1.size) (And.intro (H3.out.2.1.below hb4 H3.out.2.1.lt) (And.intro (H3.out.2.2.1.below hb4 H3.out.2.2.1.lt) (And.intro (H3.out.2.2.2.1.below hb4 H3.out.2.2.2.1.lt) (H3.out.2.2.2.2.1.below hb4 H3.out.2.2.2.2.1.lt))))
  have H4 := Lib.hid (show _ ∧ _ ∧ _ ∧ _ ∧ _ ∧ True from ⟨H4.1, H4.2.1, H4.2.2.1, H4.2.2.2.1, H4.2.2.2.2, trivial⟩)
  clear hb4 g0 g1 g2 g3
  have r0 : w4.cell? ⟨w.heap.size + 1, 0, none⟩ = some (.int .i64 0) := H4.out.2.2.1.cell 0
  have r1 : w4.cell? ⟨w.heap.size + 1, 1, none⟩ = some (.int .i64 0) := H4.out.2.2.1.cell 1
  have r2 : w4.cell? ⟨w.heap.size + 1, 2, none⟩ = some (.slice none 0 0) := H4.out.2.2.1.cell 2
  have r3 : w4.cell? ⟨w.heap.size + 1 + 1, 0, none⟩ = some (.int .i64 0) := H4.out.2.2.2.1.cell 0
  have r4 : w4.cell? ⟨w.heap.size + 1 + 1 + 1, 0, none⟩ = some (.int .i64 0) := H4.out.2.2.2.2.1.cell 0
  have f0 : w4.frozen? ⟨w.heap.size + 1, 0, none⟩ = false := H4.out.2.2.1.frozen 0
  have f1 : w4.frozen? ⟨w.heap.size + 1, 1, none⟩ = false := H4.out.2.2.1.frozen 1
  have f2 : w4.frozen? ⟨w.heap.size + 1, 2, none⟩ = false := H4.out.2.2.1.frozen 2
  have f3 : w4.frozen? ⟨w.heap.size + 1 + 1, 0, none⟩ = false := H4.out.2.2.2.1.frozen 0
  have f4 : w4.frozen? ⟨w.heap.size + 1 + 1 + 1, 0, none⟩ = false := H4.out.2.2.2.2.1.frozen 0
  have z0 : w.heap.size + 1 < w4.heap.size := H4.out.2.2.1.lt
  have z1 : w.heap.size + 1 + 1 < w4.heap.size := H4.out.2.2.2.1.lt
  have z2 : w.heap.size + 1 + 1 + 1 < w4.heap.size := H4.out.2.2.2.2.1.lt
  have kA : Kept (fun b => b = w.heap.size + 1) w4 (((w4.setCell ⟨w.heap.size + 1, 0, none⟩ (.int .i64 0)).setCell ⟨w.heap.size + 1, 1, none⟩ (.int .i64 0)).setCell ⟨w.heap.size + 1, 2, none⟩ (.slice none 0 0)) := (((Kept.refl (fun b => b = w.heap.size + 1) w4).setCell (p := ⟨w.heap.size + 1, 0, none⟩) (.inl rfl) _).setCell (p := ⟨w.heap.size + 1, 1, none⟩) (.inl rfl) _).setCell (p := ⟨w.heap.size + 1, 2, none⟩) (.inl rfl) _
  have hTE := ((H4.out.2.2.1.set_ 0 (.int .i64 0)).set_ 1 (.int .i64 0)).set_ 2 (.slice none 0 0)
  have hPE := (H4.out.2.2.2.1.kept kA (by omega)).set_ 0 (.int .i64 0)
  have hEE := H4.out.2.2.2.2.1.kept kA (by omega)
  obtain ⟨wX, hwX⟩ : ∃ wX : World, wX = ((w4.setCell ⟨w.heap.size + 1, 0, none⟩ (.int .i64 0)).setCell ⟨w.heap.size + 1, 1, none⟩ (.int .i64 0)).setCell ⟨w.heap.size + 1, 2, none⟩ (.slice none 0 0) := ⟨_, rfl⟩
  rw [← hwX] at kA hTE hPE hEE
  have kB : Kept (fun b => b = w.heap.size + 1 + 1) wX (wX.setCell ⟨w.heap.size + 1 + 1, 0, none⟩ (.int .i64 0)) := (Kept.refl (fun b => b = w.heap.size + 1 + 1) wX).setCell (p := ⟨w.heap.size + 1 + 1, 0, none⟩) (.inl rfl) _
  have hTE2 := hTE.kept kB (by omega)
  have hEE2 := (hEE.kept kB (by omega)).set_ 0 (.int .i64 E)
  obtain ⟨wY, hwY⟩ : ∃ wY : World, wY = wX.setCell ⟨w.heap.size + 1 + 1, 0, none⟩ (.int .i64 0) := ⟨_, rfl⟩
  rw [← hwY] at kB hPE hTE2 hEE2
  have kC : Kept (fun b => b = w.heap.size + 1 + 1 + 1) wY (wY.setCell ⟨w.heap.size + 1 + 1 + 1, 0, none⟩ (.int .i64 E)) := (Kept.refl (fun b => b = w.heap.size + 1 + 1 + 1) wY).setCell (p := ⟨w.heap.size + 1 + 1 + 1, 0, none⟩) (.inl rfl) _
  have hTE3 := hTE2.kept kC (by omega)
  have hPE3 := hPE.kept kC (by omega)
  obtain ⟨wE, hwE⟩ : ∃ wE : World, wE = wY.setCell ⟨w.heap.size + 1 + 1 + 1, 0, none⟩ (.int .i64 E) := ⟨_, rfl⟩
  rw [← hwE] at hTE3 hPE3 kC hEE2
  have HEnd := Lib.hid (((H4.out.1.trans (kA.to_below (B := w.heap.size) (fun b (hb : b = w.heap.size + 1) => by omega) H4.out.1.size)).trans (kB.to_below (B := w.heap.size) (fun b (hb : b = w.heap.size + 1 + 1) => by omega) (by have := H4.out.1.size; have := kA.size; omega))).trans (kC.to_below (B := w.heap.size) (fun b (hb : b = w.heap.size + 1 + 1 + 1) => by omega) (by have := H4.out.1.size; have := kA.size; have := kB.size; omega)))
  have u0 : wE.cell? ⟨w.heap.size + 1, 0, none⟩ = some (.int .i64 0) := hTE3.cell 0
  have u1 : wE.cell? ⟨w.heap.size + 1, 1, none⟩ = some (.int .i64 0) := hTE3.cell 1
  have u2 : wE.cell? ⟨w.heap.size + 1, 2, none⟩ = some (.slice none 0 0) := hTE3.cell 2
  have u3 : wE.cell? ⟨w.heap.size + 1 + 1, 0, none⟩ = some (.int .i64 0) := hPE3.cell 0
  have u4 : wE.cell? ⟨w.heap.size + 1 + 1 + 1, 0, none⟩ = some (.int .i64 E) := hEE2.cell 0
  have HX := Lib.hid hwX
  have HY := Lib.hid hwY
  have HE := Lib.hid hwE
  clear hwX hwY hwE kA kB kC hTE hPE hEE hTE2 hEE2 hTE3 hPE3
  have HU := Lib.hid (And.intro u0 (And.intro u1 (And.intro u2 (And.intro u3 u4))))
  clear u0 u1 u2 u3 u4
  go_wp2
  rw [← HX.out, ← HY.out, ← HE.out]
  obtain ⟨u0, u1, u2, u3, u4⟩ := HU.out
  simp [bodyPostD, Leaves, settle, results, Try.results6, go_sem, u0, u1, u2, u3, u4]
  exact ⟨HEc.out.symm, HEnd.out⟩
end Go.Proofs.Ytpcjfgikicpioaa
