/- Contract: parlkeep2.same: two made grammars over the same terminals. -/
import Derived.Test.YtnlpeiffbnlncaaDoorQConcChk
import Derived.Test.YtnlpeiffbnlncaaDoorQClosedJoin
import Derived.Test.YtnlpeiffbnlncaaDoorQp1
namespace Go.Proofs.YtnlpeiffbnlncaaDoor
open Go.RowKit
set_option linter.unusedVariables false

def RetSame (w : World) (e : Ending) (w' : World) : Prop :=
  ∃ (g h : Gram) (A B : Option Addr) (c d : Nat), Made g ∧ Made h ∧ h.terms = g.terms ∧
    e = .returned (.tuple #[.agg #[.int .i64 g.terms, .int .i64 g.nons, .int .i64 g.start, .slice A g.rules.length c], .agg #[.int .i64 h.terms, .int .i64 h.nons, .int .i64 h.start, .slice B h.rules.length d]]) ∧
    g.rules.length ≤ c ∧ c ≤ 9223372036854775807 ∧ h.rules.length ≤ d ∧ d ≤ 9223372036854775807 ∧ Els w' (fun b => b < w'.heap.size) g.rules A ∧ Els w' (fun b => b < w'.heap.size) h.rules B ∧ Below w.heap.size w w'
set_option maxRecDepth 100000 in
set_option maxHeartbeats 8000000 in
theorem same_any (A0 B0 : Option Addr) (c0 d0 : Nat) (xa xb : List Int) (S0 : Nat → Prop) (w : World) (h1 : xa.length ≤ c0) (h2 : c0 ≤ 9223372036854775807) (hA0 : Els w S0 xa A0) (k1 : xb.length ≤ d0) (k2 : d0 ≤ 9223372036854775807) (hB0 : Els w S0 xb B0) (hS0 : ∀ b, S0 b → b < w.heap.size) :
    Calls Tryd.prog 9 #[.slice A0 xa.length c0, .slice B0 xb.length d0] w (RetSame w) := by
  obtain ⟨w1, hw1⟩ : ∃ w1 : World, w1 = (w.alloc (.cells #[.int .i64 0, .int .i64 0, .int .i64 0, .slice none 0 0] 25)).alloc (.cells #[.int .i64 0, .int .i64 0, .int .i64 0, .slice none 0 0] 25) := ⟨_, rfl⟩
  have HW1 := Lib.hid hw1
  have hb1 : Below w.heap.size w w1 := by rw [hw1]; exact ((Below.refl _ _).alloc (Nat.le_refl _) _).alloc (by simp) _
  have HR1 : Hid (Blk' w1 w.heap.size 25 #[.int .i64 0, .int .i64 0, .int .i64 0, .slice none 0 0]) := Lib.hid (by rw [hw1]; exact (Blk'.new w _ _).alloc _)
  have HQ1 : Hid (Blk' w1 (w.heap.size + 1) 25 #[.int .i64 0, .int .i64 0, .int .i64 0, .slice none 0 0]) := Lib.hid (by rw [hw1]; exact Blk'.new' _ _ _ (by simp))
  have HB1 := Lib.hid hb1
  have HA0 := Lib.hid (hA0.belowB hb1 hS0)
  have HB0 := Lib.hid (hB0.belowB hb1 hS0)
  have HS : Hid (∀ b, S0 b → b < w1.heap.size) := Lib.hid (fun b hb => by have := hS0 b hb; have := hb1.size; omega)
  clear hA0 hB0 hS0 hb1 hw1
  go_enter Tryd.func9, Tryd.ntmps9
  go_upto_region 1 with (fail)
  rw [← HW1.out]
  go_wp2_with fail
  refine (grammar_any A0 c0 xa S0 w1 h1 h2 HA0.out HS.out).mono ?_
  rintro e w2 ⟨g, v, hmade, rfl, hvl, hb2⟩
  obtain ⟨s, rfl, _, _, _, hs⟩ := hvl.gram
  obtain ⟨A, c, rfl, hlc, hc, hA⟩ := hs.slice
  have HM := Lib.hid hmade
  have HA := Lib.hid hA
  have hz1 : w.heap.size + 1 < w1.heap.size := HQ1.out.lt
  have hz12 : w1.heap.size ≤ w2.heap.size := hb2.size
  have HB2 := Lib.hid (bthen HB1.out hb2 HB1.out.size)
  have HR2 := Lib.hid (HR1.out.below hb2 HR1.out.lt)
  have HQ2 := Lib.hid (HQ1.out.below hb2 HQ1.out.lt)
  have HB02 := Lib.hid (HB0.out.belowB hb2 HS.out)
  have HS2 : Hid (∀ b, S0 b → b < w2.heap.size) := Lib.hid (fun b hb => by have := HS.out b hb; have := hb2.size; omega)
  clear hmade hvl hs hA hb2
  go_wp2_with fail
  refine (grammar_any B0 d0 xb S0 w2 k1 k2 HB02.out HS2.out).mono ?_
  rintro e w3 ⟨h, v, hmade, rfl, hvl, hb3⟩
  obtain ⟨s, rfl, _, _, _, hs⟩ := hvl.gram
  obtain ⟨B, d, rfl, hld, hd, hB⟩ := hs.slice
  have HN := Lib.hid hmade
  have hT1 : g.terms ≤ 3 := HM.out.2.1
  have hT2 : h.terms ≤ 3 := hmade.2.1
  obtain ⟨m, n, s0, rs⟩ := g
  obtain ⟨m2, n2, s2, rs2⟩ := h
  obtain ⟨T, hT⟩ : ∃ T : Int, T = max m m2 := ⟨_, rfl⟩
  have hT3 : T ≤ 3 := by dsimp only at hT1 hT2; omega
  have hMg := Lib.hid (made_more HM.out (t := T) (by dsimp only; omega) hT3)
  have hMh := Lib.hid (made_more HN.out (t := T) (by dsimp only; omega) hT3)
  have HTe := Lib.hid hT
  dsimp only at hlc hld hB HA hMg hMh
  have hz23 : w2.heap.size ≤ w3.heap.size := hb3.size
  have HA3 := Lib.hid (HA.out.belowB hb3 (fun b hb => hb.2))
  have HB3 := Lib.hid hB
  have HR3 := Lib.hid (HR2.out.below hb3 HR2.out.lt)
  have HQ3 := Lib.hid (HQ2.out.below hb3 HQ2.out.lt)
  have HBB3 := Lib.hid (bthen HB2.out hb3 HB2.out.size)
  clear hmade hvl hs hB hb3 HA
  have hcase : (T = m2 ∧ m < m2) ∨ (T = m ∧ ¬ m < m2) := by omega
  have hz3 : w.heap.size + 1 < w3.heap.size := by omega
  clear hT HTe
  rcases hcase with ⟨he, hmm⟩ | ⟨he, hmm⟩
  · subst he
    have hmx : max m T = T := by omega
    obtain ⟨w5, hw5⟩ : ∃ w5 : World, w5 = (w3.alloc (.cells #[.int .i64 T, .int .i64 n, .int .i64 s0, .slice A rs.length c] 25)).alloc (.cells #[.int .i64 T, .int .i64 n2, .int .i64 s2, .slice B rs2.length d] 25) := ⟨_, rfl⟩
    have HW5 := Lib.hid hw5
    have hb35 : Below w3.heap.size w3 w5 := by rw [hw5]; exact ((Below.refl _ _).alloc (Nat.le_refl _) _).alloc (by simp) _
    have hXg5 : Blk' w5 w3.heap.size 25 #[.int .i64 T, .int .i64 n, .int .i64 s0, .slice A rs.length c] := by rw [hw5]; exact (Blk'.new _ _ _).alloc _
    have hXh5 : Blk' w5 (w3.heap.size + 1) 25 #[.int .i64 T, .int .i64 n2, .int .i64 s2, .slice B rs2.length d] := by rw [hw5]; exact Blk'.new' _ _ _ (by simp)
    have HR5 := Lib.hid (HR3.out.below hb35 HR3.out.lt)
    have HQ5 := Lib.hid (HQ3.out.below hb35 HQ3.out.lt)
    have HA5 := Lib.hid (HA3.out.belowB hb35 (fun b hb => by omega))
    have HBx5 := Lib.hid (HB3.out.belowB hb35 (fun b hb => hb.2))
    have HB5 : Hid (Below w.heap.size w w5) := Lib.hid (bthen HBB3.out hb35 HBB3.out.size)
    have z5 : w3.heap.size ≤ w5.heap.size := hb35.size
    have t0 : w5.cell? ⟨w3.heap.size, 0, none⟩ = some (.int .i64 T) := hXg5.cell 0
    have t1 : w5.cell? ⟨w3.heap.size, 1, none⟩ = some (.int .i64 n) := hXg5.cell 1
    have t2 : w5.cell? ⟨w3.heap.size, 2, none⟩ = some (.int .i64 s0) := hXg5.cell 2
    have t3 : w5.cell? ⟨w3.heap.size, 3, none⟩ = some (.slice A rs.length c) := hXg5.cell 3
    have v0 : w5.cell? ⟨w3.heap.size + 1, 0, none⟩ = some (.int .i64 T) := hXh5.cell 0
    have v1 : w5.cell? ⟨w3.heap.size + 1, 1, none⟩ = some (.int .i64 n2) := hXh5.cell 1
    have v2 : w5.cell? ⟨w3.heap.size + 1, 2, none⟩ = some (.int .i64 s2) := hXh5.cell 2
    have v3 : w5.cell? ⟨w3.heap.size + 1, 3, none⟩ = some (.slice B rs2.length d) := hXh5.cell 3
    have r0 := HR5.out.frozen 0
    have r1 := HR5.out.frozen 1
    have r2 := HR5.out.frozen 2
    have r3 := HR5.out.frozen 3
    have q0 : w5.cell? ⟨w.heap.size, 0, none⟩ = some (.int .i64 0) := HR5.out.cell 0
    have q1 : w5.cell? ⟨w.heap.size, 1, none⟩ = some (.int .i64 0) := HR5.out.cell 1
    have q2 : w5.cell? ⟨w.heap.size, 2, none⟩ = some (.int .i64 0) := HR5.out.cell 2
    have q3 : w5.cell? ⟨w.heap.size, 3, none⟩ = some (.slice none 0 0) := HR5.out.cell 3
    have s0' := HQ5.out.frozen 0
    have s1' := HQ5.out.frozen 1
    have s2' := HQ5.out.frozen 2
    have s3' := HQ5.out.frozen 3
    have p0 : w5.cell? ⟨w.heap.size + 1, 0, none⟩ = some (.int .i64 0) := HQ5.out.cell 0
    have p1 : w5.cell? ⟨w.heap.size + 1, 1, none⟩ = some (.int .i64 0) := HQ5.out.cell 1
    have p2 : w5.cell? ⟨w.heap.size + 1, 2, none⟩ = some (.int .i64 0) := HQ5.out.cell 2
    have p3 : w5.cell? ⟨w.heap.size + 1, 3, none⟩ = some (.slice none 0 0) := HQ5.out.cell 3
    have zr : w.heap.size < w5.heap.size := HR5.out.lt
    have zq : w.heap.size + 1 < w5.heap.size := HQ5.out.lt
    have zg5 : w3.heap.size < w5.heap.size := hXg5.lt
    have ze5 : w3.heap.size + 1 < w5.heap.size := hXh5.lt
    have n1 : ¬ w.heap.size = w3.heap.size := by omega
    have n2' : ¬ w.heap.size = w3.heap.size + 1 := by omega
    have n3 : ¬ w.heap.size + 1 = w3.heap.size := by omega
    have n4 : ¬ w3.heap.size = w.heap.size := by omega
    have n5 : ¬ w3.heap.size + 1 = w.heap.size := by omega
    have n6 : ¬ w3.heap.size = w.heap.size + 1 := by omega
    clear hw5 hb35 hXg5 hXh5
    go_upto_region 4 with (fail)
    rw [← HW5.out]
    go_region
    all_goals
      go_wp2_with fail
      generalize hwF : World.setCell _ _ _ = wF
      obtain ⟨hRM, kM⟩ := set4 HR5.out (.int .i64 T) (.int .i64 n) (.int .i64 s0) (.slice A rs.length c)
      obtain ⟨hQF, kF⟩ := set4 (HQ5.out.kept kM (fun h => by omega)) (.int .i64 T) (.int .i64 n2) (.int .i64 s2) (.slice B rs2.length d)
      have hRF := hRM.kept kF (fun h => by omega)
      have kT : Kept (fun b => b = w.heap.size ∨ b = w.heap.size + 1) w5 _ := (kM.mono (fun b _ h => .inl h)).trans (kF.mono (fun b _ h => .inr h))
      first | rw [hwF] at hRF hQF kT | (rw [show _ = wF from hwF] at hRF hQF kT) | (have hwF' := hwF; change _ = wF at hwF'; trace_state; done)
      have u0 : wF.cell? ⟨w.heap.size, 0, none⟩ = some (.int .i64 T) := hRF.cell 0
      have u1 : wF.cell? ⟨w.heap.size, 1, none⟩ = some (.int .i64 n) := hRF.cell 1
      have u2 : wF.cell? ⟨w.heap.size, 2, none⟩ = some (.int .i64 s0) := hRF.cell 2
      have u3 : wF.cell? ⟨w.heap.size, 3, none⟩ = some (.slice A rs.length c) := hRF.cell 3
      have o0 : wF.cell? ⟨w.heap.size + 1, 0, none⟩ = some (.int .i64 T) := hQF.cell 0
      have o1 : wF.cell? ⟨w.heap.size + 1, 1, none⟩ = some (.int .i64 n2) := hQF.cell 1
      have o2 : wF.cell? ⟨w.heap.size + 1, 2, none⟩ = some (.int .i64 s2) := hQF.cell 2
      have o3 : wF.cell? ⟨w.heap.size + 1, 3, none⟩ = some (.slice B rs2.length d) := hQF.cell 3
      clear hwF
      have zF := kT.size
      refine bodyPost_ret (v := .tuple #[.agg #[.int .i64 T, .int .i64 n, .int .i64 s0, .slice A rs.length c], .agg #[.int .i64 T, .int .i64 n2, .int .i64 s2, .slice B rs2.length d]]) (by simp [results, Tryd.results9, go_sem, u0, u1, u2, u3, o0, o1, o2, o3]) rfl ⟨⟨T, n, s0, rs⟩, ⟨T, n2, s2, rs2⟩, A, B, c, d, hMg.out, hMh.out, rfl, rfl, hlc, hc, hld, hd, ?_, ?_, (HB5.out.trans (kT.to_below (B := w.heap.size) (fun b h => by omega) HB5.out.size)).drew⟩
      · exact HA5.out.keep (fun p hp hlt => kT.cell hlt (fun h => by omega)) (fun b hb => by show b < wF.heap.size; omega)
      · exact HBx5.out.keep (fun p hp hlt => kT.cell hlt (fun h => by omega)) (fun b hb => by show b < wF.heap.size; omega)
  · subst he
    have hmx : max T m2 = T := by omega
    obtain ⟨w5, hw5⟩ : ∃ w5 : World, w5 = (w3.alloc (.cells #[.int .i64 T, .int .i64 n, .int .i64 s0, .slice A rs.length c] 25)).alloc (.cells #[.int .i64 T, .int .i64 n2, .int .i64 s2, .slice B rs2.length d] 25) := ⟨_, rfl⟩
    have HW5 := Lib.hid hw5
    have hb35 : Below w3.heap.size w3 w5 := by rw [hw5]; exact ((Below.refl _ _).alloc (Nat.le_refl _) _).alloc (by simp) _
    have hXg5 : Blk' w5 w3.heap.size 25 #[.int .i64 T, .int .i64 n, .int .i64 s0, .slice A rs.length c] := by rw [hw5]; exact (Blk'.new _ _ _).alloc _
    have hXh5 : Blk' w5 (w3.heap.size + 1) 25 #[.int .i64 T, .int .i64 n2, .int .i64 s2, .slice B rs2.length d] := by rw [hw5]; exact Blk'.new' _ _ _ (by simp)
    have HR5 := Lib.hid (HR3.out.below hb35 HR3.out.lt)
    have HQ5 := Lib.hid (HQ3.out.below hb35 HQ3.out.lt)
    have HA5 := Lib.hid (HA3.out.belowB hb35 (fun b hb => by omega))
    have HBx5 := Lib.hid (HB3.out.belowB hb35 (fun b hb => hb.2))
    have HB5 : Hid (Below w.heap.size w w5) := Lib.hid (bthen HBB3.out hb35 HBB3.out.size)
    have z5 : w3.heap.size ≤ w5.heap.size := hb35.size
    have t0 : w5.cell? ⟨w3.heap.size, 0, none⟩ = some (.int .i64 T) := hXg5.cell 0
    have t1 : w5.cell? ⟨w3.heap.size, 1, none⟩ = some (.int .i64 n) := hXg5.cell 1
    have t2 : w5.cell? ⟨w3.heap.size, 2, none⟩ = some (.int .i64 s0) := hXg5.cell 2
    have t3 : w5.cell? ⟨w3.heap.size, 3, none⟩ = some (.slice A rs.length c) := hXg5.cell 3
    have v0 : w5.cell? ⟨w3.heap.size + 1, 0, none⟩ = some (.int .i64 T) := hXh5.cell 0
    have v1 : w5.cell? ⟨w3.heap.size + 1, 1, none⟩ = some (.int .i64 n2) := hXh5.cell 1
    have v2 : w5.cell? ⟨w3.heap.size + 1, 2, none⟩ = some (.int .i64 s2) := hXh5.cell 2
    have v3 : w5.cell? ⟨w3.heap.size + 1, 3, none⟩ = some (.slice B rs2.length d) := hXh5.cell 3
    have r0 := HR5.out.frozen 0
    have r1 := HR5.out.frozen 1
    have r2 := HR5.out.frozen 2
    have r3 := HR5.out.frozen 3
    have q0 : w5.cell? ⟨w.heap.size, 0, none⟩ = some (.int .i64 0) := HR5.out.cell 0
    have q1 : w5.cell? ⟨w.heap.size, 1, none⟩ = some (.int .i64 0) := HR5.out.cell 1
    have q2 : w5.cell? ⟨w.heap.size, 2, none⟩ = some (.int .i64 0) := HR5.out.cell 2
    have q3 : w5.cell? ⟨w.heap.size, 3, none⟩ = some (.slice none 0 0) := HR5.out.cell 3
    have s0' := HQ5.out.frozen 0
    have s1' := HQ5.out.frozen 1
    have s2' := HQ5.out.frozen 2
    have s3' := HQ5.out.frozen 3
    have p0 : w5.cell? ⟨w.heap.size + 1, 0, none⟩ = some (.int .i64 0) := HQ5.out.cell 0
    have p1 : w5.cell? ⟨w.heap.size + 1, 1, none⟩ = some (.int .i64 0) := HQ5.out.cell 1
    have p2 : w5.cell? ⟨w.heap.size + 1, 2, none⟩ = some (.int .i64 0) := HQ5.out.cell 2
    have p3 : w5.cell? ⟨w.heap.size + 1, 3, none⟩ = some (.slice none 0 0) := HQ5.out.cell 3
    have zr : w.heap.size < w5.heap.size := HR5.out.lt
    have zq : w.heap.size + 1 < w5.heap.size := HQ5.out.lt
    have zg5 : w3.heap.size < w5.heap.size := hXg5.lt
    have ze5 : w3.heap.size + 1 < w5.heap.size := hXh5.lt
    have n1 : ¬ w.heap.size = w3.heap.size := by omega
    have n2' : ¬ w.heap.size = w3.heap.size + 1 := by omega
    have n3 : ¬ w.heap.size + 1 = w3.heap.size := by omega
    have n4 : ¬ w3.heap.size = w.heap.size := by omega
    have n5 : ¬ w3.heap.size + 1 = w.heap.size := by omega
    have n6 : ¬ w3.heap.size = w.heap.size + 1 := by omega
    clear hw5 hb35 hXg5 hXh5
    go_upto_region 4 with (fail)
    rw [← HW5.out]
    go_region
    all_goals
      go_wp2_with fail
      generalize hwF : World.setCell _ _ _ = wF
      obtain ⟨hRM, kM⟩ := set4 HR5.out (.int .i64 T) (.int .i64 n) (.int .i64 s0) (.slice A rs.length c)
      obtain ⟨hQF, kF⟩ := set4 (HQ5.out.kept kM (fun h => by omega)) (.int .i64 T) (.int .i64 n2) (.int .i64 s2) (.slice B rs2.length d)
      have hRF := hRM.kept kF (fun h => by omega)
      have kT : Kept (fun b => b = w.heap.size ∨ b = w.heap.size + 1) w5 _ := (kM.mono (fun b _ h => .inl h)).trans (kF.mono (fun b _ h => .inr h))
      first | rw [hwF] at hRF hQF kT | (rw [show _ = wF from hwF] at hRF hQF kT) | (have hwF' := hwF; change _ = wF at hwF'; trace_state; done)
      have u0 : wF.cell? ⟨w.heap.size, 0, none⟩ = some (.int .i64 T) := hRF.cell 0
      have u1 : wF.cell? ⟨w.heap.size, 1, none⟩ = some (.int .i64 n) := hRF.cell 1
      have u2 : wF.cell? ⟨w.heap.size, 2, none⟩ = some (.int .i64 s0) := hRF.cell 2
      have u3 : wF.cell? ⟨w.heap.size, 3, none⟩ = some (.slice A rs.length c) := hRF.cell 3
      have o0 : wF.cell? ⟨w.heap.size + 1, 0, none⟩ = some (.int .i64 T) := hQF.cell 0
      have o1 : wF.cell? ⟨w.heap.size + 1, 1, none⟩ = some (.int .i64 n2) := hQF.cell 1
      have o2 : wF.cell? ⟨w.heap.size + 1, 2, none⟩ = some (.int .i64 s2) := hQF.cell 2
      have o3 : wF.cell? ⟨w.heap.size + 1, 3, none⟩ = some (.slice B rs2.length d) := hQF.cell 3
      clear hwF
      have zF := kT.size
      refine bodyPost_ret (v := .tuple #[.agg #[.int .i64 T, .int .i64 n, .int .i64 s0, .slice A rs.length c], .agg #[.int .i64 T, .int .i64 n2, .int .i64 s2, .slice B rs2.length d]]) (by simp [results, Tryd.results9, go_sem, u0, u1, u2, u3, o0, o1, o2, o3]) rfl ⟨⟨T, n, s0, rs⟩, ⟨T, n2, s2, rs2⟩, A, B, c, d, hMg.out, hMh.out, rfl, rfl, hlc, hc, hld, hd, ?_, ?_, (HB5.out.trans (kT.to_below (B := w.heap.size) (fun b h => by omega) HB5.out.size)).drew⟩
      · exact HA5.out.keep (fun p hp hlt => kT.cell hlt (fun h => by omega)) (fun b hb => by show b < wF.heap.size; omega)
      · exact HBx5.out.keep (fun p hp hlt => kT.cell hlt (fun h => by omega)) (fun b hb => by show b < wF.heap.size; omega)
end Go.Proofs.YtnlpeiffbnlncaaDoor
