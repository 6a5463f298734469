/- Contracts: prec.Flat and prec.Layered; what a valid table is. -/
import Derived.Test.YtjdojogjogenkaaDoorQPrecLay
namespace Go.Proofs.YtjdojogjogenkaaDoor
open Go.RowKit
set_option linter.unusedVariables false

/-- A grammar and an error number. -/
def RetGE (w : World) (g : Gram) (er : Int) (e : Ending) (w' : World) : Prop :=
  ∃ s, e = .returned (.tuple #[.agg #[.int .i64 g.terms, .int .i64 g.nons, .int .i64 g.start, s], .int .i64 er]) ∧ Vl w' (fun b => w.heap.size ≤ b ∧ b < w'.heap.size) g.rules s ∧ Below w.heap.size w w'
def RetGLE (w : World) (g : Gram) (l : List Int) (er : Int) (e : Ending) (w' : World) : Prop :=
  ∃ s v, e = .returned (.tuple #[.agg #[.int .i64 g.terms, .int .i64 g.nons, .int .i64 g.start, s], v, .int .i64 er]) ∧ Vl w' (fun b => w.heap.size ≤ b ∧ b < w'.heap.size) g.rules s ∧ Vl w' (fun b => w.heap.size ≤ b ∧ b < w'.heap.size) l v ∧ Below w.heap.size w w'


set_option maxRecDepth 100000 in
set_option maxHeartbeats 1000000 in
theorem Layered_any (t : Table) (A : Option Addr) (c : Nat) (S : Nat → Prop) (w : World) (h64 : I64 t.terms ∧ I64 t.atom ∧ I64 t.opn ∧ I64 t.cls) (hlc : t.levels.length ≤ c) (hc : c ≤ 9223372036854775807) (hA : Els w S t.levels A) (hS : ∀ b, S b → b < w.heap.size) (hN : (allOps t).length ≤ 2000000) :
    Calls Tryd.prog 30 #[.agg #[.int .i64 t.terms, .int .i64 t.atom, .int .i64 t.opn, .int .i64 t.cls, .slice A t.levels.length c]] w (RetGLE w (layG t) (layL t) (precCheck t)) := by
  have hba : Below w.heap.size w ((w.alloc (.cells #[.int .i64 t.terms, .int .i64 t.atom, .int .i64 t.opn, .int .i64 t.cls, .slice A t.levels.length c] 65)).alloc (.cells #[.int .i64 0, .int .i64 0, .int .i64 0, .slice none 0 0] 24)) := ((Below.refl _ _).alloc (Nat.le_refl _) _).alloc (by simp) _
  have HA1 := Lib.hid (And.intro hba (hA.below hba))
  have HS1 : Hid (∀ b, S b → b < ((w.alloc (.cells #[.int .i64 t.terms, .int .i64 t.atom, .int .i64 t.opn, .int .i64 t.cls, .slice A t.levels.length c] 65)).alloc (.cells #[.int .i64 0, .int .i64 0, .int .i64 0, .slice none 0 0] 24)).heap.size) := Lib.hid (fun b hb => by have := hS b hb; simp; omega)
  have HT := Lib.hid ((Blk'.new w 65 #[.int .i64 t.terms, .int .i64 t.atom, .int .i64 t.opn, .int .i64 t.cls, .slice A t.levels.length c]).alloc (.cells #[.int .i64 0, .int .i64 0, .int .i64 0, .slice none 0 0] 24))
  have HR := Lib.hid (Blk'.new' (g := w.heap.size + 1) (w.alloc (.cells #[.int .i64 t.terms, .int .i64 t.atom, .int .i64 t.opn, .int .i64 t.cls, .slice A t.levels.length c] 65)) 24 #[.int .i64 0, .int .i64 0, .int .i64 0, .slice none 0 0] (by simp))
  have H64 := Lib.hid h64
  have HN := Lib.hid hN
  clear hba h64 hN
  go_enter Tryd.func30, Tryd.ntmps30
  go_wp2_with fail
  refine (precCheck_any t A c S _ H64.out hlc (by omega) HA1.out.2 HS1.out HN.out).mono ?_
  rintro e w1 ⟨rfl, hb1⟩
  have hT1 := HT.out.below hb1 (by simp; omega)
  have hR1 := HR.out.below hb1 (by simp)
  have HB1 := Lib.hid (bthen HA1.out.1 hb1 (by simp; omega))
  have HE1 := Lib.hid (HA1.out.2.below hb1)
  have HS2 : Hid (∀ b, S b → b < w1.heap.size) := Lib.hid (fun b hb => Nat.lt_of_lt_of_le (hS b hb) HB1.out.size)
  have c0 : w1.cell? ⟨w.heap.size, 0, none⟩ = some (.int .i64 t.terms) := hT1.cell 0
  have c1 : w1.cell? ⟨w.heap.size, 1, none⟩ = some (.int .i64 t.atom) := hT1.cell 1
  have c2 : w1.cell? ⟨w.heap.size, 2, none⟩ = some (.int .i64 t.opn) := hT1.cell 2
  have c3 : w1.cell? ⟨w.heap.size, 3, none⟩ = some (.int .i64 t.cls) := hT1.cell 3
  have c4 : w1.cell? ⟨w.heap.size, 4, none⟩ = some (.slice A t.levels.length c) := hT1.cell 4
  have HR1 := Lib.hid hR1
  clear hb1 hT1 hR1 HA1 HT HR HS1 hS
  by_cases h0 : precCheck t = 0
  · have V := Lib.hid (valid_of h0)
    have EG := Lib.hid (show layG t = ⟨t.terms, ((t.levels.length : Int) + 1), 0, layRules (brk t) t⟩ by simp [layG, h0])
    have EL := Lib.hid (show layL t = layTo (brk t) t by simp [layL, h0])
    have HC := Lib.hid h0
    rw [h0]
    clear h0
    go_wp2_with fail
    refine (lay_any t A c S _ H64.out hlc (by omega) (by have := V.out.levels; omega) HE1.out HS2.out (V.out.small (brk t)).2.1).mono ?_
    rintro e w2 ⟨v1, v2, rfl, h2, hb2⟩
    have hR2 := HR1.out.below hb2 HR1.out.lt
    have r0 : w2.cell? ⟨w.heap.size + 1, 0, none⟩ = some (.int .i64 0) := hR2.cell 0
    have r1 : w2.cell? ⟨w.heap.size + 1, 1, none⟩ = some (.int .i64 0) := hR2.cell 1
    have r2 : w2.cell? ⟨w.heap.size + 1, 2, none⟩ = some (.int .i64 0) := hR2.cell 2
    have r3 : w2.cell? ⟨w.heap.size + 1, 3, none⟩ = some (.slice none 0 0) := hR2.cell 3
    have f0 := hR2.frozen 0
    have f1 := hR2.frozen 1
    have f2 := hR2.frozen 2
    have f3 := hR2.frozen 3
    have zr : w.heap.size + 1 < w2.heap.size := hR2.lt
    obtain ⟨A1, n1, q1, rfl⟩ : ∃ A n c, v1 = Value.slice A n c := by obtain ⟨A, c, e, _⟩ := h2.1.form; exact ⟨_, _, _, e⟩
    obtain ⟨A2, n2, q2, rfl⟩ : ∃ A n c, v2 = Value.slice A n c := by obtain ⟨A, c, e, _⟩ := h2.2.1.form; exact ⟨_, _, _, e⟩
    have hsz : w.heap.size + 1 < w1.heap.size := HR1.out.lt
    have hb3 := bthen HB1.out hb2 HB1.out.size
    have HW := Lib.hid (((((hR2.set_ 0 (.int .i64 t.terms)).set_ 1 (.int .i64 ((t.levels.length : Int) + 1))).set_ 2 (.int .i64 0)).set_ 3 (.slice A1 n1 q1)).alloc (.cells #[.int .i64 t.terms, .int .i64 ((t.levels.length : Int) + 1), .int .i64 0, .slice A1 n1 q1] 24))
    have hT2 := ((((h2.set_ (p := ⟨w.heap.size + 1, 0, none⟩) (by simp; omega) (.int .i64 t.terms)).set_ (p := ⟨w.heap.size + 1, 1, none⟩) (by simp; omega) (.int .i64 ((t.levels.length : Int) + 1))).set_ (p := ⟨w.heap.size + 1, 2, none⟩) (by simp; omega) (.int .i64 0)).set_ (p := ⟨w.heap.size + 1, 3, none⟩) (by simp; omega) (.slice A1 n1 q1)).alloc (.cells #[.int .i64 t.terms, .int .i64 ((t.levels.length : Int) + 1), .int .i64 0, .slice A1 n1 q1] 24)
    have HV := Lib.hid (hT2.vl1.mono (S' := fun b => w.heap.size ≤ b ∧ b < _) (fun b hb => ⟨by have := hb.1; simp at this; omega, hb.2⟩))
    have HV2 := Lib.hid (hT2.vl2.mono (S' := fun b => w.heap.size ≤ b ∧ b < _) (fun b hb => ⟨by have := hb.1; simp at this; omega, hb.2⟩))
    have HBl := Lib.hid (((((hb3.setCell (p := ⟨w.heap.size + 1, 0, none⟩) (by simp) (.int .i64 t.terms)).setCell (p := ⟨w.heap.size + 1, 1, none⟩) (by simp) (.int .i64 ((t.levels.length : Int) + 1))).setCell (p := ⟨w.heap.size + 1, 2, none⟩) (by simp) (.int .i64 0)).setCell (p := ⟨w.heap.size + 1, 3, none⟩) (by simp) (.slice A1 n1 q1)).alloc (by simp [World.setCell]; omega) (.cells #[.int .i64 t.terms, .int .i64 ((t.levels.length : Int) + 1), .int .i64 0, .slice A1 n1 q1] 24))
    clear h2 hb2 hR2 hb3 hT2 c0 c1 c2 c3 c4
    have p0 := HW.out.cell 0
    have p1 := HW.out.cell 1
    have p2 := HW.out.cell 2
    have p3 := HW.out.cell 3
    simp at p0 p1 p2 p3
    go_wp2
    exact bodyPost_ret (v := (.tuple #[.agg #[.int .i64 t.terms, .int .i64 ((t.levels.length : Int) + 1), .int .i64 0, .slice A1 n1 q1], .slice A2 n2 q2, .int .i64 0])) (by simp [results, Tryd.results30, go_sem, p0, p1, p2, p3]) rfl ⟨_, _, by rw [EG.out, HC.out], by rw [EG.out]; exact HV.out, by rw [EL.out]; exact HV2.out, HBl.out⟩
  · have EG := Lib.hid (show layG t = ⟨0, 0, 0, []⟩ by simp [layG, h0])
    have EL := Lib.hid (show layL t = [] by simp [layL, h0])
    have hq : (precCheck t != 0) = true := by simpa using h0
    have r0 : w1.cell? ⟨w.heap.size + 1, 0, none⟩ = some (.int .i64 0) := HR1.out.cell 0
    have r1 : w1.cell? ⟨w.heap.size + 1, 1, none⟩ = some (.int .i64 0) := HR1.out.cell 1
    have r2 : w1.cell? ⟨w.heap.size + 1, 2, none⟩ = some (.int .i64 0) := HR1.out.cell 2
    have r3 : w1.cell? ⟨w.heap.size + 1, 3, none⟩ = some (.slice none 0 0) := HR1.out.cell 3
    have f0 := HR1.out.frozen 0
    have f1 := HR1.out.frozen 1
    have f2 := HR1.out.frozen 2
    have f3 := HR1.out.frozen 3
    have HW := Lib.hid ((((HR1.out.set_ 0 (.int .i64 0)).set_ 1 (.int .i64 0)).set_ 2 (.int .i64 0)).set_ 3 (.slice none 0 0))
    have HBl := Lib.hid ((((HB1.out.setCell (p := ⟨w.heap.size + 1, 0, none⟩) (by simp) (.int .i64 0)).setCell (p := ⟨w.heap.size + 1, 1, none⟩) (by simp) (.int .i64 0)).setCell (p := ⟨w.heap.size + 1, 2, none⟩) (by simp) (.int .i64 0)).setCell (p := ⟨w.heap.size + 1, 3, none⟩) (by simp) (.slice none 0 0))
    have p0 := HW.out.cell 0
    have p1 := HW.out.cell 1
    have p2 := HW.out.cell 2
    have p3 := HW.out.cell 3
    simp at p0 p1 p2 p3
    clear h0 c0 c1 c2 c3 c4
    go_wp2
    exact bodyPost_ret (v := (.tuple #[.agg #[.int .i64 0, .int .i64 0, .int .i64 0, .slice none 0 0], .slice none 0 0, .int .i64 (precCheck t)])) (by simp [results, Tryd.results30, go_sem, p0, p1, p2, p3]) rfl ⟨_, _, by rw [EG.out], by rw [EG.out]; exact Vl.nil, by rw [EL.out]; exact Vl.nil, HBl.out⟩

end Go.Proofs.YtjdojogjogenkaaDoor
