/- Contract: prec.Climb, of a valid table and a word within the bounds. -/
import Derived.Test.YtjdojogjogenkaaDoorQClimbA
import Derived.Test.YtjdojogjogenkaaDoorQp2
import Derived.Test.YtjdojogjogenkaaDoorQw2
import Derived.Test.YtjdojogjogenkaaDoorQPrecFlat
import Derived.Test.YtjdojogjogenkaaDoorQw1
import Derived.StillTailTactics
import Derived.Defers
import Derived.Recover
namespace Go.Proofs.YtjdojogjogenkaaDoor
open Go.RowKit
set_option linter.unusedVariables false

def RejC (q : Nat) (w : World) (e : Ending) (w' : World) : Prop := e = .returned (.tuple #[.agg #[.int .i64 0, .int .i64 0, .slice none 0 0], .int .i64 q, .int .i64 10]) ∧ Below w.heap.size w w'
def RetC (n : Nat) : Res → World → Ending → World → Prop
  | .ok x q, w, e, w' => if q < n then RejC q w e w' else ∃ (A : Option Addr) (c : Nat), e = .returned (.tuple #[.agg #[.int .i64 x.rule, .int .i64 x.term, .slice A x.kids.length c], .int .i64 0, .int .i64 0]) ∧ I64 x.rule ∧ I64 x.term ∧ x.kids.length ≤ c ∧ c ≤ 9223372036854775807 ∧ Els w' (fun b => w.heap.size ≤ b ∧ b < w'.heap.size) x.kids A ∧ Below w.heap.size w w'
  | .rej q, w, e, w' => RejC q w e w'

theorem om_fresh {P : Program} {k : TypeId} {R : Value → Option (DataW Unit × List MemPlace)} {b n : Nat} {D : DataW Unit} {w w' : World} (h : w.ownsMap P k R b n D) (hb : Below w.heap.size w w') : w'.ownsMap P k R b n D :=
  h.kept (row := none) ⟨hb.os, hb.tape, hb.output, hb.size, fun k hk _ => hb.block k hk⟩ (by simp)

set_option maxRecDepth 100000 in
set_option maxHeartbeats 4000000 in
theorem climb_any (t : Table) (l : List Int) (A B : Option Addr) (c d : Nat) (S S' : Nat → Prop) (w : World) (h64 : I64 t.terms ∧ I64 t.atom ∧ I64 t.opn ∧ I64 t.cls) (hlc : t.levels.length ≤ c) (hc : c ≤ 9223372036854775807) (hA : Els w S t.levels A) (hS : ∀ b, S b → b < w.heap.size)
    (hB : Els w S' l B) (hS' : ∀ b, S' b → b < w.heap.size) (h0 : precCheck t = 0) (hw : wordE t.terms l 500 = 0) (hld : l.length ≤ d) (hd : d ≤ 9223372036854775807) (r : Res) (hr : ParE t l 0 0 r) :
    Calls Tryd.prog 69 #[.agg #[.int .i64 t.terms, .int .i64 t.atom, .int .i64 t.opn, .int .i64 t.cls, .slice A t.levels.length c], .slice B l.length d] w (RetC l.length r w) := by
  have hl5 : l.length ≤ 500 := by
    unfold wordE at hw
    split at hw
    · omega
    · omega
  have V := Lib.hid (valid_of h0)
  have HN := Lib.hid ((V.out.small true).2.2)
  obtain ⟨w0, hw0⟩ : ∃ w0 : World, w0 = (((w.alloc (.cells #[.int .i64 t.terms, .int .i64 t.atom, .int .i64 t.opn, .int .i64 t.cls, .slice A t.levels.length c] 65)).alloc (.cells #[.int .i64 0, .int .i64 0, .slice none 0 0] 27)).alloc (.cells #[.int .i64 0] 3)).alloc (.cells #[.int .i64 0] 28) := ⟨_, rfl⟩
  have hb0 : Below w.heap.size w w0 := by rw [hw0]; exact ((((Below.refl _ _).alloc (Nat.le_refl _) _).alloc (by simp) _).alloc (by simp; omega) _).alloc (by simp; omega) _
  have hT0 : Blk' w0 w.heap.size 65 #[.int .i64 t.terms, .int .i64 t.atom, .int .i64 t.opn, .int .i64 t.cls, .slice A t.levels.length c] := by rw [hw0]; exact (((Blk'.new w _ _).alloc _).alloc _).alloc _
  have hR0 : Blk' w0 (w.heap.size + 1) 27 #[.int .i64 0, .int .i64 0, .slice none 0 0] := by rw [hw0]; exact ((Blk'.new' _ _ _ (by simp)).alloc _).alloc _
  have hP0 : Blk' w0 (w.heap.size + 1 + 1) 3 #[.int .i64 0] := by rw [hw0]; exact (Blk'.new' _ _ _ (by simp)).alloc _
  have hE0 : Blk' w0 (w.heap.size + 1 + 1 + 1) 28 #[.int .i64 0] := by rw [hw0]; exact Blk'.new' _ _ _ (by simp)
  have H0 := Lib.hid (And.intro hb0 (And.intro hT0 (And.intro hR0 (And.intro hP0 (And.intro hE0 (And.intro (hA.below hb0) (hB.below hb0)))))))
  have HW0 := Lib.hid hw0
  have HS := Lib.hid hS
  have HS' := Lib.hid hS'
  have H64 := Lib.hid h64
  have HC0 := Lib.hid h0
  have HWd := Lib.hid hw
  have Hr := Lib.hid hr
  have t0 : w0.cell? ⟨w.heap.size, 0, none⟩ = some (.int .i64 t.terms) := hT0.cell 0
  have t1 : w0.cell? ⟨w.heap.size, 1, none⟩ = some (.int .i64 t.atom) := hT0.cell 1
  have t2 : w0.cell? ⟨w.heap.size, 2, none⟩ = some (.int .i64 t.opn) := hT0.cell 2
  have t3 : w0.cell? ⟨w.heap.size, 3, none⟩ = some (.int .i64 t.cls) := hT0.cell 3
  have t4 : w0.cell? ⟨w.heap.size, 4, none⟩ = some (.slice A t.levels.length c) := hT0.cell 4
  clear hw0 hb0 hT0 hR0 hP0 hE0 hA hB hS hS' h64 h0 hw hr
  go_enter_defers Tryd.func69, Tryd.ntmps69
  go_upto_region 1 with (fail)
  rw [← HW0.out]
  go_wp2_with fail
  refine (precCheck_any t A c S _ H64.out hlc (by omega) H0.out.2.2.2.2.2.1 (fun b hb => Nat.lt_of_lt_of_le (HS.out b hb) H0.out.1.size) HN.out).mono ?_
  rintro e w1 ⟨rfl, hb1⟩
  rw [HC0.out]
  have H1 := Lib.hid (And.intro (bthen H0.out.1 hb1 H0.out.1.size) (And.intro (H0.out.2.1.below hb1 H0.out.2.1.lt) (And.intro (H0.out.2.2.1.below hb1 H0.out.2.2.1.lt) (And.intro (H0.out.2.2.2.1.below hb1 H0.out.2.2.2.1.lt) (And.intro (H0.out.2.2.2.2.1.below hb1 H0.out.2.2.2.2.1.lt) (And.intro (H0.out.2.2.2.2.2.1.below hb1) (H0.out.2.2.2.2.2.2.below hb1)))))))
  clear hb1 t0 t1 t2 t3 t4 H0
  have t0 : w1.cell? ⟨w.heap.size, 0, none⟩ = some (.int .i64 t.terms) := H1.out.2.1.cell 0
  have t1 : w1.cell? ⟨w.heap.size, 1, none⟩ = some (.int .i64 t.atom) := H1.out.2.1.cell 1
  have t2 : w1.cell? ⟨w.heap.size, 2, none⟩ = some (.int .i64 t.opn) := H1.out.2.1.cell 2
  have t3 : w1.cell? ⟨w.heap.size, 3, none⟩ = some (.int .i64 t.cls) := H1.out.2.1.cell 3
  have t4 : w1.cell? ⟨w.heap.size, 4, none⟩ = some (.slice A t.levels.length c) := H1.out.2.1.cell 4
  go_wp2_with fail
  refine (flat_any t A c S _ H64.out hlc (by omega) H1.out.2.2.2.2.2.1 (fun b hb => Nat.lt_of_lt_of_le (HS.out b hb) H1.out.1.size) (V.out.small true).1).mono ?_
  rintro e w2 ⟨v1, v2, rfl, h2, hb2⟩
  obtain ⟨A1, n1, q1, e1, hn1, hq1, hm1⟩ : ∃ A n c, v1 = Value.slice A n c ∧ n = (flatRules t).length ∧ n ≤ c ∧ c ≤ 9223372036854775807 := by obtain ⟨A, c, e, h1, h2, _⟩ := h2.1.form; exact ⟨_, _, _, e, rfl, h1, h2⟩
  obtain ⟨A2, n2, q2, e2, hn2, hq2, hm2⟩ : ∃ A n c, v2 = Value.slice A n c ∧ n = (flatLev t).length ∧ n ≤ c ∧ c ≤ 9223372036854775807 := by obtain ⟨A, c, e, h1, h2, _⟩ := h2.2.1.form; exact ⟨_, _, _, e, rfl, h1, h2⟩
  subst e1; subst e2
  have HV := Lib.hid (And.intro h2.vl1 h2.vl2)
  clear t0 t1 t2 t3 t4
  subst hn1; subst hn2
  obtain ⟨w3, hw3⟩ : ∃ w3 : World, w3 = w2.alloc (.cells #[.int .i64 t.terms, .int .i64 1, .int .i64 0, .slice A1 (flatRules t).length q1] 24) := ⟨_, rfl⟩
  have HW3 := Lib.hid hw3
  have hb3 : Below w2.heap.size w2 w3 := by rw [hw3]; exact (Below.refl _ _).alloc (Nat.le_refl _) _
  have hG3 : Blk' w3 w2.heap.size 24 #[.int .i64 t.terms, .int .i64 1, .int .i64 0, .slice A1 (flatRules t).length q1] := by rw [hw3]; exact Blk'.new w2 _ _
  have hb23 : Below w1.heap.size w1 w3 := bthen hb2 hb3 hb2.size
  have HR3 := Lib.hid (And.intro (HV.out.1.els.2.2.2.below hb3) (HV.out.2.els.2.2.2.below hb3))
  have hz12 : w1.heap.size ≤ w2.heap.size := hb2.size
  have H3 := Lib.hid (And.intro (bthen H1.out.1 hb23 H1.out.1.size) (And.intro (H1.out.2.1.below hb23 H1.out.2.1.lt) (And.intro (H1.out.2.2.1.below hb23 H1.out.2.2.1.lt) (And.intro (H1.out.2.2.2.1.below hb23 H1.out.2.2.2.1.lt) (And.intro (H1.out.2.2.2.2.1.below hb23 H1.out.2.2.2.2.1.lt) (And.intro (H1.out.2.2.2.2.2.1.below hb23) (And.intro (H1.out.2.2.2.2.2.2.below hb23) hG3)))))))
  have g0 : w3.cell? ⟨w2.heap.size, 0, none⟩ = some (.int .i64 t.terms) := hG3.cell 0
  have g1 : w3.cell? ⟨w2.heap.size, 1, none⟩ = some (.int .i64 1) := hG3.cell 1
  have g2 : w3.cell? ⟨w2.heap.size, 2, none⟩ = some (.int .i64 0) := hG3.cell 2
  have g3 : w3.cell? ⟨w2.heap.size, 3, none⟩ = some (.slice A1 (flatRules t).length q1) := hG3.cell 3
  have hz1 : w.heap.size + 1 + 1 + 1 < w1.heap.size := H1.out.2.2.2.2.1.lt
  clear h2 hb2 hw3 hb3 hG3 hb23 HV H1
  go_upto_region 5 with (fail)
  rw [← HW3.out]
  go_wp2_with fail
  refine (word_any t.terms 1 0 500 _ l B d S' w3 (by omega) H3.out.2.2.2.2.2.2.1 (fun b hb => by have h1 := HS'.out b hb; have h2 := H3.out.1.size; omega) ⟨_, _, _, rfl⟩).mono ?_
  rintro e w4 ⟨rfl, hb4⟩
  rw [HWd.out]
  have hz4 : w3.heap.size ≤ w4.heap.size := hb4.size
  have hz3 : w2.heap.size < w3.heap.size := H3.out.2.2.2.2.2.2.2.lt
  have HR4 := Lib.hid (And.intro (HR3.out.1.below hb4) (HR3.out.2.below hb4))
  have H4 := Lib.hid (And.intro (bthen H3.out.1 hb4 H3.out.1.size) (And.intro (H3.out.2.1.below hb4 H3.out.2.1.lt) (And.intro (H3.out.2.2.1.below hb4 H3.out.2.2.1.lt) (And.intro (H3.out.2.2.2.1.below hb4 H3.out.2.2.2.1.lt) (And.intro (H3.out.2.2.2.2.1.below hb4 H3.out.2.2.2.2.1.lt) (And.intro (H3.out.2.2.2.2.2.1.below hb4) (And.intro (H3.out.2.2.2.2.2.2.1.below hb4) (H3.out.2.2.2.2.2.2.2.below hb4 H3.out.2.2.2.2.2.2.2.lt))))))))
  clear hb4 g0 g1 g2 g3
  have t0 : w4.cell? ⟨w.heap.size, 0, none⟩ = some (.int .i64 t.terms) := H4.out.2.1.cell 0
  have t1 : w4.cell? ⟨w.heap.size, 1, none⟩ = some (.int .i64 t.atom) := H4.out.2.1.cell 1
  have t2 : w4.cell? ⟨w.heap.size, 2, none⟩ = some (.int .i64 t.opn) := H4.out.2.1.cell 2
  have t3 : w4.cell? ⟨w.heap.size, 3, none⟩ = some (.int .i64 t.cls) := H4.out.2.1.cell 3
  have t4 : w4.cell? ⟨w.heap.size, 4, none⟩ = some (.slice A t.levels.length c) := H4.out.2.1.cell 4
  have g3 : w4.cell? ⟨w2.heap.size, 3, none⟩ = some (.slice A1 (flatRules t).length q1) := H4.out.2.2.2.2.2.2.2.cell 3
  have hmm := @run_makeMap Tryd.prog
  obtain ⟨w5, hw5⟩ : ∃ w5 : World, w5 = ((w4.alloc (.map #[] 0)).alloc (.cells #[.int .i64 t.terms, .int .i64 t.atom, .int .i64 t.opn, .int .i64 t.cls, .slice A t.levels.length c, .slice B l.length d, .int .i64 0, .map (some w4.heap.size)] 174)).alloc (.cells #[.pointer (some ⟨w4.heap.size + 1, 0, none⟩)] 171) := ⟨_, rfl⟩
  have HW5 := Lib.hid hw5
  have hb5 : Below w4.heap.size w4 w5 := by rw [hw5]; exact (((Below.refl _ _).alloc (Nat.le_refl _) _).alloc (by simp) _).alloc (by simp; omega) _
  have hM5 : w5.ownsMap Tryd.prog 3 (plainElem Tryd.prog 3) w4.heap.size 0 (.map [] : DataW Unit) := by
    rw [hw5]
    exact ((World.ownsMap_made (H := Unit) w4 Tryd.prog 3 (plainElem Tryd.prog 3)).alloc _).alloc _
  have hK5 : Blk' w5 (w4.heap.size + 1) 174 (clCells t.terms t.atom t.opn t.cls (.slice A t.levels.length c) B l.length d 0 (.map (some w4.heap.size))) := by rw [hw5]; exact (Blk'.new' _ _ _ (by simp)).alloc _
  have hC5 : Blk' w5 (w4.heap.size + 1 + 1) 171 #[.pointer (some ⟨w4.heap.size + 1, 0, none⟩)] := by rw [hw5]; exact Blk'.new' _ _ _ (by simp)
  have hz5 : w5.heap.size = w4.heap.size + 1 + 1 + 1 := by rw [hw5]; simp
  have HZ5 := Lib.hid hz5
  have H5 := Lib.hid (And.intro (bthen H4.out.1 hb5 H4.out.1.size) (And.intro (H4.out.2.1.below hb5 H4.out.2.1.lt) (And.intro (H4.out.2.2.1.below hb5 H4.out.2.2.1.lt) (And.intro (H4.out.2.2.2.1.below hb5 H4.out.2.2.2.1.lt) (And.intro (H4.out.2.2.2.2.1.below hb5 H4.out.2.2.2.2.1.lt) (And.intro (H4.out.2.2.2.2.2.1.below hb5) (And.intro (H4.out.2.2.2.2.2.2.1.below hb5) (And.intro (HR4.out.1.below hb5) (HR4.out.2.below hb5)))))))))
  have HMK := Lib.hid (And.intro hM5 (And.intro hK5 hC5))
  have g3' : w5.cell? ⟨w2.heap.size, 3, none⟩ = some (.slice A1 (flatRules t).length q1) := (hb5.cell (p := ⟨w2.heap.size, 3, none⟩) (by show w2.heap.size < w4.heap.size; omega)).trans g3
  have hfl := flatR_len t
  have hrl : (flatRules t).length ≤ 1000000 := (V.out.small true).1.1
  have hll : (flatLev t).length ≤ 1000000 := (V.out.small true).1.2
  have HFL := Lib.hid hfl
  have y0 : w2.heap.size < w4.heap.size := by omega
  have y1 : w2.heap.size < w4.heap.size + 1 := by omega
  have y2 : w2.heap.size < w4.heap.size + 1 + 1 := by omega
  have g3r := g3'
  rw [hw5] at g3r
  clear hw5 hb5 hM5 hK5 hC5 hz5 hfl g3'
  go_wp2_with fail
  rw [← HW5.out]
  clear hmm t0 t1 t2 t3 t4 g3 g3r
  go_loopw [41] (fun i wr => ∃ (j : Nat) (D : DataW Unit), j ≤ (flatRules t).length ∧ i = .int .i64 j ∧ Kept (fun b => b = w4.heap.size) w5 wr ∧ wr.ownsMap Tryd.prog 3 (plainElem Tryd.prog 3) w4.heap.size j D ∧ MapOk t j D) (fun i _ => (flatRules t).length - (intOf i).toNat)
  case atStart => exact ⟨0, _, Nat.zero_le _, rfl, Kept.refl _ _, HMK.out.1, Maps.isMap_empty, fun m op _ h => absurd h (Nat.not_lt_zero _)⟩
  case round =>
    obtain ⟨wo, hwo⟩ : ∃ wo : World, wo = wr := ⟨_, rfl⟩
    subst hwo
    obtain ⟨j, D, hj, rfl, hk, hM, hD⟩ := hrel
    have HKo := Lib.hid hk
    have HM := Lib.hid hM
    have HD := Lib.hid hD
    have hzo : w5.heap.size ≤ wo.heap.size := hk.size
    have HZo := Lib.hid hzo
    clear hk hM hD
    by_cases hlt : j < (flatRules t).length
    · obtain ⟨q, hq⟩ := get_some hlt
      obtain ⟨bq, oq, Aq, cq, eA1, hSb, hbs, hqi, hrc, hcr, hEr, hc0, hc1⟩ := (H5.out.2.2.2.2.2.2.2.1.kept HKo.out (fun b hb (e : b = w4.heap.size) => by have := hb.2; omega)).rule hq
      subst eA1
      have hTo := H5.out.2.1.kept HKo.out (by omega)
      have hCo := HMK.out.2.2.kept HKo.out (by omega)
      have hKo := HMK.out.2.1.kept HKo.out (by omega)
      obtain ⟨w6, hw6⟩ : ∃ w6 : World, w6 = wo.alloc (.cells #[.int .i64 q.left, .slice Aq q.right.length cq] 60) := ⟨_, rfl⟩
      have HW6 := Lib.hid hw6
      have hb6 : Below wo.heap.size wo w6 := by rw [hw6]; exact (Below.refl _ _).alloc (Nat.le_refl _) _
      have hQ6 : Blk' w6 wo.heap.size 60 #[.int .i64 q.left, .slice Aq q.right.length cq] := by rw [hw6]; exact Blk'.new wo _ _
      have HM6 := Lib.hid (om_fresh HM.out hb6)
      have HK6 := Lib.hid (HKo.out.below hb6)
      have HE6 := Lib.hid (hEr.below hb6)
      have HL6 := Lib.hid ((H5.out.2.2.2.2.2.2.2.2.kept HKo.out (fun b hb (e : b = w4.heap.size) => by have := hb.2; omega)).below hb6)
      have t4 : w6.cell? ⟨w.heap.size, 4, none⟩ = some (.slice A t.levels.length c) := (hTo.below hb6 hTo.lt).cell 4
      have c0 : w6.cell? ⟨w4.heap.size + 1 + 1, 0, none⟩ = some (.pointer (some ⟨w4.heap.size + 1, 0, none⟩)) := (hCo.below hb6 hCo.lt).cell 0
      have k7 : w6.cell? ⟨w4.heap.size + 1, 7, none⟩ = some (.map (some w4.heap.size)) := (hKo.below hb6 hKo.lt).cell 7
      have q0 : w6.cell? ⟨wo.heap.size, 1, none⟩ = some (.slice Aq q.right.length cq) := hQ6.cell 1
      have hk0 : (0 : Int) ≤ (j : Int) := by omega
      have hk1 : (j : Int) < ((flatRules t).length : Int) := by omega
      have HQ := Lib.hid hq
      have hL6 : t.levels.length ≤ 6 := V.out.levels
      clear hw6 hb6 hQ6 hTo hCo hKo hEr hq hSb hqi
      rcases flat_kind t j q HQ.out with ⟨hlow, hv⟩ | ⟨m, i, op, hjm, hop, hv, hi, h2, h3, hsy⟩
      · obtain ⟨bv, ov, eA2, _, hbv, _, hvc⟩ := HL6.out.int hv
        subst eA2
        have hjv : (j : Int) < ((flatLev t).length : Int) := by have := (List.getElem?_eq_some_iff.1 hv).1; omega
        have HLow := Lib.hid hlow
        have hd1 : decide ((t.levels.length : Int) < (t.levels.length : Int)) = false := by simp
        clear hv hlow
        go_wp2_with fail
        rw [← HW6.out]
        go_quiet (fail)
        go_wp2_with fail
        go_roundw
        case rel => exact ⟨j + 1, D, hlt, by go_num, kept_drewN HK6.out _, (om_fresh HM6.out (below_drewN (Below.refl _ _) _)).mono (by omega), HD.out.low HLow.out⟩
        case measure => simp [intOf]; omega
      · obtain ⟨bv, ov, eA2, _, hbv, _, hvc⟩ := HL6.out.int hv
        subst eA2
        obtain ⟨bs, os, eAq, _, hbss, hsi, sc0, sc1⟩ := HE6.out.sym hsy
        subst eAq
        have hjv : (j : Int) < ((flatLev t).length : Int) := by have := (List.getElem?_eq_some_iff.1 hv).1; omega
        have hd1 : decide ((i : Int) < (t.levels.length : Int)) = true := by simp; omega
        have hwr : IntKind.i64.wrap ((q.right.length : Int) - 2) = (q.right.length : Int) - 2 := IntWalk.i64_in _ (by omega)
        have hw1 : (2 : Int) ≤ (q.right.length : Int) := by omega
        have hw2 : (0 : Int) ≤ (q.right.length : Int) - 2 := by omega
        have hw3 : (q.right.length : Int) - 2 < (q.right.length : Int) := by omega
        have hw4 : ((q.right.length : Int) - 2).toNat = q.right.length - 2 := by omega
        have hi9 : (i : Int) < (t.levels.length : Int) := by omega
        have HOp := Lib.hid (And.intro hop (And.intro hjm hsi))
        clear hv hop hjm hi
        go_wp2_with fail
        rw [← HW6.out]
        go_quiet (fail)
        go_wp2_with fail
        obtain ⟨w7, hw7⟩ : ∃ w7 : World, w7 = w6.drewN nq := ⟨_, rfl⟩
        have hb7 : Below w6.heap.size w6 w7 := by rw [hw7]; exact below_drewN (Below.refl _ _) _
        have c07 : w7.cell? ⟨w4.heap.size + 1 + 1, 0, none⟩ = some (.pointer (some ⟨w4.heap.size + 1, 0, none⟩)) := by rw [hw7]; exact c0
        have k77 : w7.cell? ⟨w4.heap.size + 1, 7, none⟩ = some (.map (some w4.heap.size)) := by rw [hw7]; exact k7
        have q07 : w7.cell? ⟨wo.heap.size, 1, none⟩ = some (.slice (some ⟨bs, os, none⟩) q.right.length cq) := by rw [hw7]; exact q0
        have s17 : w7.cell? ⟨bs, os + (q.right.length - 2) * 2 + 1, none⟩ = some (.int .i64 op) := by rw [hw7]; exact sc1
        have HW7 := Lib.hid hw7
        have HB7 := Lib.hid hb7
        rw [← hw7]
        clear hw7 hb7 c0 k7 q0 sc0 sc1 t4 hvc
        have hMd := om_fresh HM6.out (bthen HB7.out (below_drew w7) HB7.out.size)
        obtain ⟨w8, hup, hO8, hg8⟩ := hMd.update (Maps.int_keyed Tryd.underlying3) Tryd.underlying172 (by unfold maxLen; omega) (Maps.keyOf_int_mk Tryd.underlying3 (a := op) (wf_of_i64 HOp.out.2.2)) (plainElem_int (q := .i64) (a := (j : Int)) Tryd.underlying3 (wf_of_i64 ⟨by omega, by omega⟩))
        have HO8 := Lib.hid hO8
        have HG8 := Lib.hid hg8
        clear hMd hO8 hg8
        go_still_tail 14, (by kernel_rfl)
        change wpList _ _ _ _ _ w7.drew
        go_wp2_with fail
        go_roundw
        case rel => exact ⟨j + 1, _, hlt, by go_num, ((HK6.out.below HB7.out).drew).trans (Kept.of_grown HG8.out (fun b hb => by injection hb with hb; exact hb.symm)), HO8.out, by
          have h := HD.out
          have e := HOp.out.2.1
          rw [e] at h ⊢
          exact h.put V.out HOp.out.1⟩
        case measure => simp [intOf]; omega
    · have hjj : j = (flatRules t).length := by omega
      have HMap := Lib.hid (show MapOk t (flatRules t).length D by rw [← hjj]; exact HD.out)
      have hCl : ClW t l (w4.heap.size + 1) A c B d w4.heap.size j D S' S 0 wo :=
        ⟨HMK.out.2.1.kept HKo.out (by omega), H5.out.2.2.2.2.2.2.1.kept HKo.out (fun b hb (e : b = w4.heap.size) => by have := HS'.out b hb; omega), H5.out.2.2.2.2.2.1.kept HKo.out (fun b hb (e : b = w4.heap.size) => by have := HS.out b hb; omega), HM.out, Nat.zero_le _⟩
      have hF : ClF t l (w4.heap.size + 1) w4.heap.size D S' S :=
        ⟨fun b hb => by have := HS'.out b hb; omega, fun b hb => by have := HS.out b hb; omega, by omega, by omega, V.out.levels, by have := V.out.ops; unfold opsL; omega, fun lv hlv => by
          obtain ⟨k, hk⟩ := List.mem_iff_getElem?.1 hlv
          obtain ⟨_, _, _, _, _, _, _, _, h1, h2, _⟩ := hCl.levs.level hk
          omega, HMap.out.all⟩
      obtain ⟨n0, hp0⟩ := Hr.out
      have hpa := parse_any hF n0 0 0 r wo hp0 hCl
      rw [show ((0 : Nat) : Int) = 0 from rfl] at hpa
      have HPa := Lib.hid hpa
      have HF := Lib.hid hF
      have hTo := H5.out.2.2.1.kept HKo.out (by omega)
      have hPo := H5.out.2.2.2.1.kept HKo.out (by omega)
      have hEo := H5.out.2.2.2.2.1.kept HKo.out (by omega)
      have hCo := HMK.out.2.2.kept HKo.out (by omega)
      have HB := Lib.hid (And.intro hTo (And.intro hPo (And.intro hEo hCo)))
      have HKw := Lib.hid (HKo.out.to_below (B := w.heap.size) (fun b (hb : b = w4.heap.size) => by omega) H5.out.1.size)
      have HWo := Lib.hid (H5.out.1.trans HKw.out)
      have c0 : wo.cell? ⟨w4.heap.size + 1 + 1, 0, none⟩ = some (.pointer (some ⟨w4.heap.size + 1, 0, none⟩)) := hCo.cell 0
      have zC : w4.heap.size + 1 + 1 < wo.heap.size := hCo.lt
      have hmf : ∀ (fn : Fn) (first cap : Array Value) (w : World), (Instr.makeFunc fn first cap).run Tryd.prog w = .ok (.func fn first cap) w := fun _ _ _ _ => rfl
      clear hjj hCl hF hp0 hpa hTo hPo hEo hCo
      go_wp2_with fail
      refine HPa.out.mono ?_
      rintro e w8 hret
      cases r with
      | rej q =>
        obtain ⟨rfl, hC8, hk8⟩ := hret
        have hB8 := Lib.hid (HWo.out.trans (hk8.to_below (B := w.heap.size) (fun b (hb : b = w4.heap.size + 1) => by omega) HWo.out.size))
        have hT8 := HB.out.1.kept hk8 (by omega)
        have hP8 := HB.out.2.1.kept hk8 (by omega)
        have hE8 := HB.out.2.2.1.kept hk8 (by omega)
        have hC8' := HB.out.2.2.2.kept hk8 (by omega)
        refine leaves_cons (f := 114) (args := #[.pointer (some ⟨w4.heap.size + 1 + 1, 0, none⟩), .pointer (some ⟨w.heap.size + 1, 0, none⟩), .pointer (some ⟨w.heap.size + 1 + 1, 0, none⟩), .pointer (some ⟨w.heap.size + 1 + 1 + 1, 0, none⟩)]) (by simp) (by simp [go_sem]) ?_
        refine (climbD_reject (w4.heap.size + 1 + 1) (w.heap.size + 1) (w.heap.size + 1 + 1) (w.heap.size + 1 + 1 + 1) (w4.heap.size + 1) q 0 0 0 0 (.bool true) (.slice none 0 0) [] w8 (hC8'.cell 0) (hC8.blk.cell 6) hC8'.lt hC8.blk.lt hT8.lt hP8.lt hE8.lt (by omega) (by omega) (by omega) (by omega) (by omega) (by omega) hT8 hP8 hE8).mono ?_
        rintro e u' wE ⟨rfl, rfl, hwE⟩
        have kA : Kept (fun b => b = w.heap.size + 1) w8 ((((w8.alloc (.cells #[] 176)).setCell ⟨w.heap.size + 1, 0, none⟩ (.int .i64 0)).setCell ⟨w.heap.size + 1, 1, none⟩ (.int .i64 0)).setCell ⟨w.heap.size + 1, 2, none⟩ (.slice none 0 0)) :=
          ((((Kept.refl (fun b => b = w.heap.size + 1) w8).alloc _).setCell (p := ⟨w.heap.size + 1, 0, none⟩) (.inl rfl) _).setCell (p := ⟨w.heap.size + 1, 1, none⟩) (.inl rfl) _).setCell (p := ⟨w.heap.size + 1, 2, none⟩) (.inl rfl) _
        have hTE := (((hT8.alloc (.cells #[] 176)).set_ 0 (.int .i64 0)).set_ 1 (.int .i64 0)).set_ 2 (.slice none 0 0)
        have hPE := (hP8.kept kA (by omega)).set_ 0 (.int .i64 q)
        have hEE := hE8.kept kA (by omega)
        generalize ((((w8.alloc (.cells #[] 176)).setCell ⟨w.heap.size + 1, 0, none⟩ (.int .i64 0)).setCell ⟨w.heap.size + 1, 1, none⟩ (.int .i64 0)).setCell ⟨w.heap.size + 1, 2, none⟩ (.slice none 0 0)) = wX at hwE kA hTE hPE hEE
        have kB : Kept (fun b => b = w.heap.size + 1 + 1) wX (wX.setCell ⟨w.heap.size + 1 + 1, 0, none⟩ (.int .i64 q)) := (Kept.refl (fun b => b = w.heap.size + 1 + 1) wX).setCell (p := ⟨w.heap.size + 1 + 1, 0, none⟩) (.inl rfl) _
        have hTE2 := hTE.kept kB (by omega)
        have hEE2 := (hEE.kept kB (by omega)).set_ 0 (.int .i64 10)
        generalize wX.setCell ⟨w.heap.size + 1 + 1, 0, none⟩ (.int .i64 q) = wY at hwE kB hPE hTE2 hEE2
        have kC : Kept (fun b => b = w.heap.size + 1 + 1 + 1) wY (wY.setCell ⟨w.heap.size + 1 + 1 + 1, 0, none⟩ (.int .i64 10)) := (Kept.refl (fun b => b = w.heap.size + 1 + 1 + 1) wY).setCell (p := ⟨w.heap.size + 1 + 1 + 1, 0, none⟩) (.inl rfl) _
        have hTE3 := hTE2.kept kC (by omega)
        have hPE3 := hPE.kept kC (by omega)
        rw [← hwE] at hTE3 hPE3 kC hEE2
        have u0 : wE.cell? ⟨w.heap.size + 1, 0, none⟩ = some (.int .i64 0) := hTE3.cell 0
        have u1 : wE.cell? ⟨w.heap.size + 1, 1, none⟩ = some (.int .i64 0) := hTE3.cell 1
        have u2 : wE.cell? ⟨w.heap.size + 1, 2, none⟩ = some (.slice none 0 0) := hTE3.cell 2
        have u3 : wE.cell? ⟨w.heap.size + 1 + 1, 0, none⟩ = some (.int .i64 q) := hPE3.cell 0
        have u4 : wE.cell? ⟨w.heap.size + 1 + 1 + 1, 0, none⟩ = some (.int .i64 10) := hEE2.cell 0
        have HEnd := Lib.hid (((hB8.out.trans (kA.to_below (B := w.heap.size) (fun b (hb : b = w.heap.size + 1) => by omega) hB8.out.size)).trans (kB.to_below (B := w.heap.size) (fun b (hb : b = w.heap.size + 1 + 1) => by omega) (by have := hB8.out.size; have := kA.size; omega))).trans (kC.to_below (B := w.heap.size) (fun b (hb : b = w.heap.size + 1 + 1 + 1) => by omega) (by have := hB8.out.size; have := kA.size; have := kB.size; omega)))
        clear hwE kA kB kC hTE hPE hEE hTE2 hEE2 hTE3 hPE3
        simp [Leaves, settle, results, Tryd.results69, go_sem, u0, u1, u2, u3, u4]
        exact ⟨rfl, HEnd.out⟩
      | ok x q =>
        obtain ⟨⟨A8, c8, rfl, i1, i2, i3, i4, hX8⟩, hC8o, hk8⟩ := hret
        obtain ⟨w9, hw9⟩ : ∃ w9 : World, w9 = w8.alloc (.cells #[.int .i64 x.rule, .int .i64 x.term, .slice A8 x.kids.length c8] 27) := ⟨_, rfl⟩
        have HW9 := Lib.hid hw9
        have hb9 : Below w8.heap.size w8 w9 := by rw [hw9]; exact (Below.refl _ _).alloc (Nat.le_refl _) _
        have hX9 : Blk' w9 w8.heap.size 27 #[.int .i64 x.rule, .int .i64 x.term, .slice A8 x.kids.length c8] := by rw [hw9]; exact Blk'.new w8 _ _
        have hB8a := HWo.out.trans (hk8.to_below (B := w.heap.size) (fun b (hb : b = w4.heap.size + 1) => by omega) HWo.out.size)
        have hB8 := Lib.hid (bthen hB8a hb9 hB8a.size)
        have hT8 := (HB.out.1.kept hk8 (by omega)).below hb9 (HB.out.1.kept hk8 (by omega)).lt
        have hP8 := (HB.out.2.1.kept hk8 (by omega)).below hb9 (HB.out.2.1.kept hk8 (by omega)).lt
        have hE8 := (HB.out.2.2.1.kept hk8 (by omega)).below hb9 (HB.out.2.2.1.kept hk8 (by omega)).lt
        have hC8' := (HB.out.2.2.2.kept hk8 (by omega)).below hb9 (HB.out.2.2.2.kept hk8 (by omega)).lt
        have hC8 := hC8o.below hb9
        have HEl := Lib.hid (And.intro i1 (And.intro i2 (And.intro i3 (And.intro i4 (hX8.below hb9)))))
        have cc0 : w9.cell? ⟨w4.heap.size + 1 + 1, 0, none⟩ = some (.pointer (some ⟨w4.heap.size + 1, 0, none⟩)) := hC8'.cell 0
        have ck6 : w9.cell? ⟨w4.heap.size + 1, 6, none⟩ = some (.int .i64 q) := hC8.blk.cell 6
        have HAll := Lib.hid (And.intro hT8 (And.intro hP8 (And.intro hE8 (And.intro hC8' (And.intro hC8 hX9)))))
        have zX8 : w.heap.size + 1 + 1 + 1 < w8.heap.size := by have := hk8.size; have := HB.out.2.2.1.lt; omega
        have zk8 : wo.heap.size ≤ w8.heap.size := hk8.size
        clear hb9 hw9 hX9 hB8a hT8 hP8 hE8 hC8' hC8 i1 i2 i3 i4 hX8 hC8o hk8
        by_cases hq : q < l.length
        · have hq1 : (q : Int) < (l.length : Int) := by omega
          have HQ := Lib.hid hq
          clear hq
          go_upto_region 17 with (fail)
          rw [← HW9.out]
          go_wp2_with fail
          have hT8 := HAll.out.1
          have hP8 := HAll.out.2.1
          have hE8 := HAll.out.2.2.1
          have hC8' := HAll.out.2.2.2.1
          have hC8 := HAll.out.2.2.2.2.1
          clear cc0 ck6 c0
          refine leaves_cons (f := 114) (args := #[.pointer (some ⟨w4.heap.size + 1 + 1, 0, none⟩), .pointer (some ⟨w.heap.size + 1, 0, none⟩), .pointer (some ⟨w.heap.size + 1 + 1, 0, none⟩), .pointer (some ⟨w.heap.size + 1 + 1 + 1, 0, none⟩)]) (by simp) (by simp [go_sem]) ?_
          refine (climbD_reject (w4.heap.size + 1 + 1) (w.heap.size + 1) (w.heap.size + 1 + 1) (w.heap.size + 1 + 1 + 1) (w4.heap.size + 1) q 0 0 0 0 (.bool true) (.slice none 0 0) [] w9 (hC8'.cell 0) (hC8.blk.cell 6) hC8'.lt hC8.blk.lt hT8.lt hP8.lt hE8.lt (by omega) (by omega) (by omega) (by omega) (by omega) (by omega) hT8 hP8 hE8).mono ?_
          rintro e u' wE ⟨rfl, rfl, hwE⟩
          have kA : Kept (fun b => b = w.heap.size + 1) w9 ((((w9.alloc (.cells #[] 176)).setCell ⟨w.heap.size + 1, 0, none⟩ (.int .i64 0)).setCell ⟨w.heap.size + 1, 1, none⟩ (.int .i64 0)).setCell ⟨w.heap.size + 1, 2, none⟩ (.slice none 0 0)) :=
            ((((Kept.refl (fun b => b = w.heap.size + 1) w9).alloc _).setCell (p := ⟨w.heap.size + 1, 0, none⟩) (.inl rfl) _).setCell (p := ⟨w.heap.size + 1, 1, none⟩) (.inl rfl) _).setCell (p := ⟨w.heap.size + 1, 2, none⟩) (.inl rfl) _
          have hTE := (((hT8.alloc (.cells #[] 176)).set_ 0 (.int .i64 0)).set_ 1 (.int .i64 0)).set_ 2 (.slice none 0 0)
          have hPE := (hP8.kept kA (by omega)).set_ 0 (.int .i64 q)
          have hEE := hE8.kept kA (by omega)
          generalize ((((w9.alloc (.cells #[] 176)).setCell ⟨w.heap.size + 1, 0, none⟩ (.int .i64 0)).setCell ⟨w.heap.size + 1, 1, none⟩ (.int .i64 0)).setCell ⟨w.heap.size + 1, 2, none⟩ (.slice none 0 0)) = wX at hwE kA hTE hPE hEE
          have kB : Kept (fun b => b = w.heap.size + 1 + 1) wX (wX.setCell ⟨w.heap.size + 1 + 1, 0, none⟩ (.int .i64 q)) := (Kept.refl (fun b => b = w.heap.size + 1 + 1) wX).setCell (p := ⟨w.heap.size + 1 + 1, 0, none⟩) (.inl rfl) _
          have hTE2 := hTE.kept kB (by omega)
          have hEE2 := (hEE.kept kB (by omega)).set_ 0 (.int .i64 10)
          generalize wX.setCell ⟨w.heap.size + 1 + 1, 0, none⟩ (.int .i64 q) = wY at hwE kB hPE hTE2 hEE2
          have kC : Kept (fun b => b = w.heap.size + 1 + 1 + 1) wY (wY.setCell ⟨w.heap.size + 1 + 1 + 1, 0, none⟩ (.int .i64 10)) := (Kept.refl (fun b => b = w.heap.size + 1 + 1 + 1) wY).setCell (p := ⟨w.heap.size + 1 + 1 + 1, 0, none⟩) (.inl rfl) _
          have hTE3 := hTE2.kept kC (by omega)
          have hPE3 := hPE.kept kC (by omega)
          rw [← hwE] at hTE3 hPE3 kC hEE2
          have u0 : wE.cell? ⟨w.heap.size + 1, 0, none⟩ = some (.int .i64 0) := hTE3.cell 0
          have u1 : wE.cell? ⟨w.heap.size + 1, 1, none⟩ = some (.int .i64 0) := hTE3.cell 1
          have u2 : wE.cell? ⟨w.heap.size + 1, 2, none⟩ = some (.slice none 0 0) := hTE3.cell 2
          have u3 : wE.cell? ⟨w.heap.size + 1 + 1, 0, none⟩ = some (.int .i64 q) := hPE3.cell 0
          have u4 : wE.cell? ⟨w.heap.size + 1 + 1 + 1, 0, none⟩ = some (.int .i64 10) := hEE2.cell 0
          have HEnd := Lib.hid (((hB8.out.trans (kA.to_below (B := w.heap.size) (fun b (hb : b = w.heap.size + 1) => by omega) hB8.out.size)).trans (kB.to_below (B := w.heap.size) (fun b (hb : b = w.heap.size + 1 + 1) => by omega) (by have := hB8.out.size; have := kA.size; omega))).trans (kC.to_below (B := w.heap.size) (fun b (hb : b = w.heap.size + 1 + 1 + 1) => by omega) (by have := hB8.out.size; have := kA.size; have := kB.size; omega)))
          clear hwE kA kB kC hTE hPE hEE hTE2 hEE2 hTE3 hPE3
          simp [Leaves, settle, results, Tryd.results69, go_sem, u0, u1, u2, u3, u4]
          show if q < l.length then RejC q w _ wE else _
          rw [if_pos HQ.out]
          exact ⟨rfl, HEnd.out⟩
        · have hq1 : ¬ (q : Int) < (l.length : Int) := by omega
          have HQ := Lib.hid hq
          have x0 : w9.cell? ⟨w8.heap.size, 0, none⟩ = some (.int .i64 x.rule) := HAll.out.2.2.2.2.2.cell 0
          have x1 : w9.cell? ⟨w8.heap.size, 1, none⟩ = some (.int .i64 x.term) := HAll.out.2.2.2.2.2.cell 1
          have x2 : w9.cell? ⟨w8.heap.size, 2, none⟩ = some (.slice A8 x.kids.length c8) := HAll.out.2.2.2.2.2.cell 2
          have s0 : w9.cell? ⟨w.heap.size + 1, 0, none⟩ = some (.int .i64 0) := HAll.out.1.cell 0
          have s1 : w9.cell? ⟨w.heap.size + 1, 1, none⟩ = some (.int .i64 0) := HAll.out.1.cell 1
          have s2 : w9.cell? ⟨w.heap.size + 1, 2, none⟩ = some (.slice none 0 0) := HAll.out.1.cell 2
          have s3 : w9.cell? ⟨w.heap.size + 1 + 1, 0, none⟩ = some (.int .i64 0) := HAll.out.2.1.cell 0
          have s4 : w9.cell? ⟨w.heap.size + 1 + 1 + 1, 0, none⟩ = some (.int .i64 0) := HAll.out.2.2.1.cell 0
          have r0 := HAll.out.1.frozen 0
          have r1 := HAll.out.1.frozen 1
          have r2 := HAll.out.1.frozen 2
          have r3 := HAll.out.2.1.frozen 0
          have r4 := HAll.out.2.2.1.frozen 0
          have zT9 : w.heap.size + 1 < w9.heap.size := HAll.out.1.lt
          have zP9 : w.heap.size + 1 + 1 < w9.heap.size := HAll.out.2.1.lt
          have zE9 : w.heap.size + 1 + 1 + 1 < w9.heap.size := HAll.out.2.2.1.lt
          have zX9 : w8.heap.size < w9.heap.size := HAll.out.2.2.2.2.2.lt
          clear hq
          go_upto_region 17 with (fail)
          rw [← HW9.out]
          go_wp2_with fail
          refine leaves_cons (f := 114) (args := #[.pointer (some ⟨w4.heap.size + 1 + 1, 0, none⟩), .pointer (some ⟨w.heap.size + 1, 0, none⟩), .pointer (some ⟨w.heap.size + 1 + 1, 0, none⟩), .pointer (some ⟨w.heap.size + 1 + 1 + 1, 0, none⟩)]) (by simp) (by simp [go_sem]) ?_
          refine (climbD_idle _ _ _ _ _).mono ?_
          rintro e u' wE ⟨rfl, rfl, hwE⟩
          have hT8 := HAll.out.1
          have hP8 := HAll.out.2.1
          have hE8 := HAll.out.2.2.1
          have kA : Kept (fun b => b = w.heap.size + 1) w9 (((w9.setCell ⟨w.heap.size + 1, 0, none⟩ (.int .i64 x.rule)).setCell ⟨w.heap.size + 1, 1, none⟩ (.int .i64 x.term)).setCell ⟨w.heap.size + 1, 2, none⟩ (.slice A8 x.kids.length c8)) :=
            (((Kept.refl (fun b => b = w.heap.size + 1) w9).setCell (p := ⟨w.heap.size + 1, 0, none⟩) (.inl rfl) _).setCell (p := ⟨w.heap.size + 1, 1, none⟩) (.inl rfl) _).setCell (p := ⟨w.heap.size + 1, 2, none⟩) (.inl rfl) _
          have hTE := ((hT8.set_ 0 (.int .i64 x.rule)).set_ 1 (.int .i64 x.term)).set_ 2 (.slice A8 x.kids.length c8)
          have hPE := (hP8.kept kA (by omega)).set_ 0 (.int .i64 0)
          have hEE := hE8.kept kA (by omega)
          have hEl := HEl.out.2.2.2.2.kept kA (fun b hb (e : b = w.heap.size + 1) => by have := hb.1; omega)
          generalize ((w9.setCell ⟨w.heap.size + 1, 0, none⟩ (.int .i64 x.rule)).setCell ⟨w.heap.size + 1, 1, none⟩ (.int .i64 x.term)).setCell ⟨w.heap.size + 1, 2, none⟩ (.slice A8 x.kids.length c8) = wX at hwE kA hTE hPE hEE hEl
          have kB : Kept (fun b => b = w.heap.size + 1 + 1) wX (wX.setCell ⟨w.heap.size + 1 + 1, 0, none⟩ (.int .i64 0)) := (Kept.refl (fun b => b = w.heap.size + 1 + 1) wX).setCell (p := ⟨w.heap.size + 1 + 1, 0, none⟩) (.inl rfl) _
          have hTE2 := hTE.kept kB (by omega)
          have hEE2 := (hEE.kept kB (by omega)).set_ 0 (.int .i64 0)
          have hEl2 := hEl.kept kB (fun b hb (e : b = w.heap.size + 1 + 1) => by have := hb.1; omega)
          generalize wX.setCell ⟨w.heap.size + 1 + 1, 0, none⟩ (.int .i64 0) = wY at hwE kB hPE hTE2 hEE2 hEl2
          have kC : Kept (fun b => b = w.heap.size + 1 + 1 + 1) wY ((wY.setCell ⟨w.heap.size + 1 + 1 + 1, 0, none⟩ (.int .i64 0)).alloc (.cells #[] 176)) := ((Kept.refl (fun b => b = w.heap.size + 1 + 1 + 1) wY).setCell (p := ⟨w.heap.size + 1 + 1 + 1, 0, none⟩) (.inl rfl) _).alloc _
          have hTE3 := hTE2.kept kC (by omega)
          have hPE3 := hPE.kept kC (by omega)
          have hEl3 := hEl2.kept kC (fun b hb (e : b = w.heap.size + 1 + 1 + 1) => by have := hb.1; omega)
          have hEE3 := hEE2.alloc (.cells #[] 176)
          rw [← hwE] at hTE3 hPE3 kC hEE3 hEl3
          have u0 : wE.cell? ⟨w.heap.size + 1, 0, none⟩ = some (.int .i64 x.rule) := hTE3.cell 0
          have u1 : wE.cell? ⟨w.heap.size + 1, 1, none⟩ = some (.int .i64 x.term) := hTE3.cell 1
          have u2 : wE.cell? ⟨w.heap.size + 1, 2, none⟩ = some (.slice A8 x.kids.length c8) := hTE3.cell 2
          have u3 : wE.cell? ⟨w.heap.size + 1 + 1, 0, none⟩ = some (.int .i64 0) := hPE3.cell 0
          have u4 : wE.cell? ⟨w.heap.size + 1 + 1 + 1, 0, none⟩ = some (.int .i64 0) := hEE3.cell 0
          have HEnd := Lib.hid (((hB8.out.trans (kA.to_below (B := w.heap.size) (fun b (hb : b = w.heap.size + 1) => by omega) hB8.out.size)).trans (kB.to_below (B := w.heap.size) (fun b (hb : b = w.heap.size + 1 + 1) => by omega) (by have := hB8.out.size; have := kA.size; omega))).trans (kC.to_below (B := w.heap.size) (fun b (hb : b = w.heap.size + 1 + 1 + 1) => by omega) (by have := hB8.out.size; have := kA.size; have := kB.size; omega)))
          have HElE := Lib.hid (hEl3.keep (S' := fun b => w.heap.size ≤ b ∧ b < wE.heap.size) (fun _ _ _ => rfl) (fun b hb => ⟨by have := hb.1; omega, by have := hb.2; have := kA.size; have := kB.size; have := kC.size; omega⟩))
          clear hwE kA kB kC hTE hPE hEE hTE2 hEE2 hTE3 hPE3 hEl hEl2 hEl3
          simp [Leaves, settle, results, Tryd.results69, go_sem, u0, u1, u2, u3, u4]
          show if q < l.length then _ else _
          rw [if_neg HQ.out]
          exact ⟨A8, c8, rfl, HEl.out.1, HEl.out.2.1, HEl.out.2.2.1, HEl.out.2.2.2.1, HElE.out, HEnd.out⟩
end Go.Proofs.YtjdojogjogenkaaDoor
