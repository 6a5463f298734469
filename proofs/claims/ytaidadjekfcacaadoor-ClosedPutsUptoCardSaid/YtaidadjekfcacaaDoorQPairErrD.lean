/- Contract: parlref2.PairErr (without what speaks of Union and Concat: for seats that lack closed.two). -/
import Derived.Test.YtaidadjekfcacaaDoorQClosedE
import Derived.Test.YtaidadjekfcacaaDoorQGramErr
namespace Go.Proofs.YtaidadjekfcacaaDoor
open Go.RowKit
set_option linter.unusedVariables false

def pairE (g h : Gram) : Int := if firstE [g, h] = 0 then (if h.terms = g.terms then 0 else 1) else firstE [g, h]
set_option maxRecDepth 100000 in
set_option maxHeartbeats 4000000 in
theorem pairErr_any (g h : Gram) (A B : Option Addr) (c d : Nat) (S : Nat → Prop) (w : World) (h64 : I64 g.terms ∧ I64 g.nons ∧ I64 g.start) (h64h : I64 h.terms ∧ I64 h.nons ∧ I64 h.start) (hlc : g.rules.length ≤ c) (hc : c ≤ 9223372036854775807) (hA : Els w S g.rules A) (hld : h.rules.length ≤ d) (hd : d ≤ 9223372036854775807) (hB : Els w S h.rules B) (hS : ∀ b, S b → b < w.heap.size) :
    Calls Tryd.prog 29 #[.agg #[.int .i64 g.terms, .int .i64 g.nons, .int .i64 g.start, .slice A g.rules.length c], .agg #[.int .i64 h.terms, .int .i64 h.nons, .int .i64 h.start, .slice B h.rules.length d]] w fun e w' => e = .returned (.int .i64 (pairE g h)) ∧ Below w.heap.size w w' := by
  obtain ⟨E, hE⟩ : ∃ E, E = checkI g := ⟨_, rfl⟩
  obtain ⟨F, hF⟩ : ∃ F, F = checkI h := ⟨_, rfl⟩
  have hP : pairE g h = if E = 0 then (if F = 0 then (if h.terms = g.terms then 0 else 1) else F) else E := by
    rw [hE, hF]; unfold pairE firstE firstE firstE
    by_cases h1 : checkI g = 0
    · by_cases h2 : checkI h = 0 <;> simp [h1, h2]
    · simp [h1]
  rw [hP]
  have HEq := Lib.hid (And.intro hE hF)
  clear hE hF hP
  obtain ⟨gt, gn, gs, rs⟩ := g
  obtain ⟨ht, hn, ks, rs2⟩ := h
  dsimp only at *
  have KEA_0 : Hid (Els w S rs A) := Lib.hid (hA)
  have KEB_0 : Hid (Els w S rs2 B) := Lib.hid (hB)
  have HS := Lib.hid hS
  have HI := Lib.hid (And.intro h64 h64h)
  clear hA hB hS
  obtain ⟨w_1, hww_1⟩ : ∃ w_1 : World, w_1 = (w.alloc (.cells #[.int .i64 gt, .int .i64 gn, .int .i64 gs, .slice A rs.length c] 25)).alloc (.cells #[.int .i64 ht, .int .i64 hn, .int .i64 ks, .slice B rs2.length d] 25) := ⟨_, rfl⟩
  have hbw_1 : Below w.heap.size w w_1 := by rw [hww_1]; exact ((Below.refl _ _).alloc (by first | exact Nat.le_refl _ | (simp; done) | (simp; omega)) _).alloc (by first | exact Nat.le_refl _ | (simp; done) | (simp; omega)) _
  have sqw_1 : w_1.heap.size = w.heap.size + 1 + 1 := by rw [hww_1]; simp
  have KEA_1 : Hid (Els w_1 S rs A) := Lib.hid (KEA_0.out.below hbw_1)
  have KEB_1 : Hid (Els w_1 S rs2 B) := Lib.hid (KEB_0.out.below hbw_1)
  have QB_1 : Hid (Below w.heap.size w w_1) := Lib.hid (hbw_1)
  have sz_1 : w.heap.size + 1 + 1 ≤ w_1.heap.size := by rw [sqw_1]; exact Nat.le_refl _
  have KA_1 : Hid (Blk' w_1 (w.heap.size) 25 #[.int .i64 gt, .int .i64 gn, .int .i64 gs, .slice A rs.length c]) := Lib.hid (by rw [hww_1]; exact (Blk'.new w _ _).alloc _)
  have KB_1 : Hid (Blk' w_1 (w.heap.size + 1) 25 #[.int .i64 ht, .int .i64 hn, .int .i64 ks, .slice B rs2.length d]) := Lib.hid (by rw [hww_1]; exact Blk'.new' (g := w.heap.size + 1) _ _ _ (by simp))
  have HWw_1 := Lib.hid hww_1
  have SQw_1 := Lib.hid sqw_1
  clear hww_1 hbw_1 sqw_1
  clear KEA_0 KEB_0
  go_enter Tryd.func29, Tryd.ntmps29
  go_upto_region 1 with (fail)
  rw [← HWw_1.out]
  have cA_1_0 : w_1.cell? ⟨w.heap.size, 0, none⟩ = some (.int .i64 gt) := KA_1.out.cell 0
  have cA_1_1 : w_1.cell? ⟨w.heap.size, 1, none⟩ = some (.int .i64 gn) := KA_1.out.cell 1
  have cA_1_2 : w_1.cell? ⟨w.heap.size, 2, none⟩ = some (.int .i64 gs) := KA_1.out.cell 2
  have cA_1_3 : w_1.cell? ⟨w.heap.size, 3, none⟩ = some (.slice A rs.length c) := KA_1.out.cell 3
  have zA_1 : w.heap.size < w_1.heap.size := KA_1.out.lt
  have cB_1_0 : w_1.cell? ⟨w.heap.size + 1, 0, none⟩ = some (.int .i64 ht) := KB_1.out.cell 0
  have cB_1_1 : w_1.cell? ⟨w.heap.size + 1, 1, none⟩ = some (.int .i64 hn) := KB_1.out.cell 1
  have cB_1_2 : w_1.cell? ⟨w.heap.size + 1, 2, none⟩ = some (.int .i64 ks) := KB_1.out.cell 2
  have cB_1_3 : w_1.cell? ⟨w.heap.size + 1, 3, none⟩ = some (.slice B rs2.length d) := KB_1.out.cell 3
  have zB_1 : w.heap.size + 1 < w_1.heap.size := KB_1.out.lt
  go_wp2_with fail
  refine (gramErr_any ⟨gt, gn, gs, rs⟩ A c S w_1 HI.out.1 hlc hc KEA_1.out (fun b hb => by have := HS.out b hb; omega)).mono ?_
  rintro e w_2 ⟨rfl, hbz⟩
  clear cA_1_0 cA_1_1 cA_1_2 cA_1_3 zA_1 cB_1_0 cB_1_1 cB_1_2 cB_1_3 zB_1
  have KEA_2 : Hid (Els w_2 S rs A) := Lib.hid (KEA_1.out.below hbz)
  have KEB_2 : Hid (Els w_2 S rs2 B) := Lib.hid (KEB_1.out.below hbz)
  have KA_2 : Hid (Blk' w_2 (w.heap.size) 25 #[.int .i64 gt, .int .i64 gn, .int .i64 gs, .slice A rs.length c]) := Lib.hid (KA_1.out.below hbz KA_1.out.lt)
  have KB_2 : Hid (Blk' w_2 (w.heap.size + 1) 25 #[.int .i64 ht, .int .i64 hn, .int .i64 ks, .slice B rs2.length d]) := Lib.hid (KB_1.out.below hbz KB_1.out.lt)
  have QB_2 : Hid (Below w.heap.size w w_2) := Lib.hid (bthen QB_1.out hbz QB_1.out.size)
  have sz_2 : w_1.heap.size ≤ w_2.heap.size := (hbz).size
  clear hbz
  clear KEA_1 KEB_1 KA_1 KB_1 QB_1
  rw [← HEq.out.1]
  by_cases hE : E = 0
  · subst hE
    have cA_2_0 : w_2.cell? ⟨w.heap.size, 0, none⟩ = some (.int .i64 gt) := KA_2.out.cell 0
    have cA_2_1 : w_2.cell? ⟨w.heap.size, 1, none⟩ = some (.int .i64 gn) := KA_2.out.cell 1
    have cA_2_2 : w_2.cell? ⟨w.heap.size, 2, none⟩ = some (.int .i64 gs) := KA_2.out.cell 2
    have cA_2_3 : w_2.cell? ⟨w.heap.size, 3, none⟩ = some (.slice A rs.length c) := KA_2.out.cell 3
    have zA_2 : w.heap.size < w_2.heap.size := KA_2.out.lt
    have cB_2_0 : w_2.cell? ⟨w.heap.size + 1, 0, none⟩ = some (.int .i64 ht) := KB_2.out.cell 0
    have cB_2_1 : w_2.cell? ⟨w.heap.size + 1, 1, none⟩ = some (.int .i64 hn) := KB_2.out.cell 1
    have cB_2_2 : w_2.cell? ⟨w.heap.size + 1, 2, none⟩ = some (.int .i64 ks) := KB_2.out.cell 2
    have cB_2_3 : w_2.cell? ⟨w.heap.size + 1, 3, none⟩ = some (.slice B rs2.length d) := KB_2.out.cell 3
    have zB_2 : w.heap.size + 1 < w_2.heap.size := KB_2.out.lt
    go_wp2_with fail
    refine (gramErr_any ⟨ht, hn, ks, rs2⟩ B d S w_2 HI.out.2 hld hd KEB_2.out (fun b hb => by have := HS.out b hb; omega)).mono ?_
    rintro e w_3 ⟨rfl, hbz⟩
    clear cA_2_0 cA_2_1 cA_2_2 cA_2_3 zA_2 cB_2_0 cB_2_1 cB_2_2 cB_2_3 zB_2
    have KEA_3 : Hid (Els w_3 S rs A) := Lib.hid (KEA_2.out.below hbz)
    have KEB_3 : Hid (Els w_3 S rs2 B) := Lib.hid (KEB_2.out.below hbz)
    have KA_3 : Hid (Blk' w_3 (w.heap.size) 25 #[.int .i64 gt, .int .i64 gn, .int .i64 gs, .slice A rs.length c]) := Lib.hid (KA_2.out.below hbz KA_2.out.lt)
    have KB_3 : Hid (Blk' w_3 (w.heap.size + 1) 25 #[.int .i64 ht, .int .i64 hn, .int .i64 ks, .slice B rs2.length d]) := Lib.hid (KB_2.out.below hbz KB_2.out.lt)
    have QB_3 : Hid (Below w.heap.size w w_3) := Lib.hid (bthen QB_2.out hbz QB_2.out.size)
    have sz_3 : w_2.heap.size ≤ w_3.heap.size := (hbz).size
    clear hbz
    clear KEA_2 KEB_2 KA_2 KB_2 QB_2
    rw [← HEq.out.2]
    have cA_3_0 : w_3.cell? ⟨w.heap.size, 0, none⟩ = some (.int .i64 gt) := KA_3.out.cell 0
    have cA_3_1 : w_3.cell? ⟨w.heap.size, 1, none⟩ = some (.int .i64 gn) := KA_3.out.cell 1
    have cA_3_2 : w_3.cell? ⟨w.heap.size, 2, none⟩ = some (.int .i64 gs) := KA_3.out.cell 2
    have cA_3_3 : w_3.cell? ⟨w.heap.size, 3, none⟩ = some (.slice A rs.length c) := KA_3.out.cell 3
    have zA_3 : w.heap.size < w_3.heap.size := KA_3.out.lt
    have cB_3_0 : w_3.cell? ⟨w.heap.size + 1, 0, none⟩ = some (.int .i64 ht) := KB_3.out.cell 0
    have cB_3_1 : w_3.cell? ⟨w.heap.size + 1, 1, none⟩ = some (.int .i64 hn) := KB_3.out.cell 1
    have cB_3_2 : w_3.cell? ⟨w.heap.size + 1, 2, none⟩ = some (.int .i64 ks) := KB_3.out.cell 2
    have cB_3_3 : w_3.cell? ⟨w.heap.size + 1, 3, none⟩ = some (.slice B rs2.length d) := KB_3.out.cell 3
    have zB_3 : w.heap.size + 1 < w_3.heap.size := KB_3.out.lt
    by_cases hF : F = 0
    · subst hF
      by_cases htt : ht = gt
      · have htt2 : gt = ht := htt.symm
        subst htt2
        go_wp2
        go_ret
        exact ⟨rfl, QB_3.out⟩
      · have htt2 : ¬ gt = ht := fun e => htt e.symm
        go_wp2
        go_ret
        exact ⟨by simp [htt], QB_3.out⟩
    · go_wp2
      go_ret
      exact ⟨by simp [hF], QB_3.out⟩
  · go_wp2
    go_ret
    exact ⟨by simp [hE], QB_2.out⟩
end Go.Proofs.YtaidadjekfcacaaDoor
