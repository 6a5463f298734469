/- Contract: the reference's StraightOf of a valid grammar. -/
import Derived.Test.YtagcnhiinmiklaaDoorQTailsOf
import Derived.Test.YtagcnhiinmiklaaDoorQRCycle
import Derived.Test.YtagcnhiinmiklaaDoorQRLeft
import Derived.Test.YtagcnhiinmiklaaDoorQGramErr
import Derived.Test.YtagcnhiinmiklaaDoorQp2
import Derived.Test.YtagcnhiinmiklaaDoorQLeftOf
import Derived.Deep.DeepCutAuto
import Derived.Deep.QuietTactic
import Derived.BigQuiet
namespace Go.Proofs.YtagcnhiinmiklaaDoor
open Go.RowKit
set_option linter.unusedVariables false

theorem idx_tails (g : Gram) : ∀ (n z : Nat), z < n → idxI (fun x => (z : Int) == x) (tailsT g n) = if hasRec g z then ((cntRec g z : Nat) : Int) else -1
  | 0, z, h => absurd h (Nat.not_lt_zero _)
  | n + 1, z, h => by
    have hno : ∀ k, k ≤ z → ∀ y ∈ tailsT g k, ((z : Int) == y) = false := fun k hk y hy => by
      have := tailsT_mem hy
      rw [beq_eq_false_iff_ne]
      omega
    by_cases e : z = n
    · subst e
      cases hr : hasRec g z with
      | true =>
        have hz : tailsT g (z + 1) = tailsT g z ++ [(z : Int)] := by simp [tailsT, hr]
        rw [hz, if_pos rfl]
        have hl := tailsT_len g z
        refine (idxI_hit (k := cntRec g z) (x := (z : Int)) ?_ (by simp) ?_)
        · rw [List.getElem?_append_right (by omega), hl]; simp
        · intro y hy
          rw [List.take_append_of_le_length (by omega), List.take_of_length_le (by omega)] at hy
          exact hno z (Nat.le_refl _) y hy
      | false =>
        have hz : tailsT g (z + 1) = tailsT g z := by simp [tailsT, hr]
        rw [hz]
        unfold idxI
        rw [if_neg]
        · simp
        · intro ha
          obtain ⟨y, hy, h2⟩ := List.any_eq_true.1 ha
          rw [hno z (Nat.le_refl _) y hy] at h2
          cases h2
    · have ih := idx_tails g n z (by omega)
      cases hr : hasRec g n with
      | false =>
        have hz : tailsT g (n + 1) = tailsT g n := by simp [tailsT, hr]
        rw [hz]; exact ih
      | true =>
        have hz : tailsT g (n + 1) = tailsT g n ++ [(n : Int)] := by simp [tailsT, hr]
        rw [hz, ← ih]
        unfold idxI
        have hne : ((z : Int) == (n : Int)) = false := by rw [beq_eq_false_iff_ne]; omega
        rw [List.any_append]
        simp only [List.any_cons, List.any_nil, hne, Bool.or_false]
        by_cases ha : (tailsT g n).any (fun x => (z : Int) == x) = true
        · rw [if_pos ha, if_pos ha]
          obtain ⟨y, hy, h2⟩ := List.any_eq_true.1 ha
          rw [List.findIdx_append, if_pos (List.findIdx_lt_length.2 ⟨y, hy, h2⟩)]
        · rw [if_neg ha, if_neg ha]
/-- The number of a rule's tail. -/
theorem idx_tail {g : Gram} {n z : Nat} (h : z < n) : (idxI (fun x => (z : Int) == x) (tailsT g n) < 0 ∧ tailI g n z < 0 ∧ idxI (fun x => (z : Int) == x) (tailsT g n) = -1) ∨ (∃ k : Nat, idxI (fun x => (z : Int) == x) (tailsT g n) = (k : Int) ∧ tailI g n z = ((n + k : Nat) : Int) ∧ k ≤ z) := by
  rw [idx_tails g n z h]
  unfold tailI
  cases hasRec g z with
  | true => exact .inr ⟨cntRec g z, rfl, rfl, cntRec_le g z⟩
  | false => exact .inl ⟨by simp, by simp, by simp⟩
def RetSt (g : Gram) (n : Nat) (w : World) (e : Ending) (w' : World) : Prop :=
  (∃ k, StrBad g n k ∧ e = .returned (.tuple #[.agg #[.int .i64 0, .int .i64 0, .int .i64 0, .slice none 0 0], .slice none 0 0, .int .i64 k]) ∧ Below w.heap.size w w') ∨
  (StrOk g n ∧ ∃ (A1 A2 : Option Addr) (c1 c2 : Nat), e = .returned (.tuple #[.agg #[.int .i64 (strG g n).terms, .int .i64 (strG g n).nons, .int .i64 (strG g n).start, .slice A1 (strG g n).rules.length c1], .slice A2 (fromL g n).length c2, .int .i64 0]) ∧
    (strG g n).rules.length ≤ c1 ∧ c1 ≤ 9223372036854775807 ∧ Els w' (fun b => w.heap.size ≤ b ∧ b < w'.heap.size) (strG g n).rules A1 ∧
    (fromL g n).length ≤ c2 ∧ c2 ≤ 9223372036854775807 ∧ Els w' (fun b => w.heap.size ≤ b ∧ b < w'.heap.size) (fromL g n) A2 ∧ Below w.heap.size w w')
theorem first_rec {qr : List Sym} {z T : Int} {s1 : Sym} (h : (qr ++ [(⟨false, T⟩ : Sym)])[0]? = some s1) (hT : T ≠ z) : recB ⟨z, qr⟩ = decide (s1 = ⟨false, z⟩) := by
  unfold recB
  cases qr with
  | nil =>
    simp at h
    subst h
    simp [hT]
  | cons s0 r0 =>
    simp at h
    subst h
    simp
def StR (g : Gram) (n O : Nat) (w4 : World) (B : Nat) (oc : Value → Array Value) (v2 i : Value) (wr : World) : Prop :=
  ∃ (j : Nat) (v1 : Value), j ≤ g.rules.length ∧ i = .int .i64 j ∧ Two wr (fun _ => False) B 49 3 v1 v2 ((g.rules.take j).map (strR g n)) (idxL j) ∧ Blk' wr O 24 (oc v1) ∧ Below O w4 wr ∧ B ≤ wr.heap.size
def StE (g : Gram) (n C O : Nat) (w4 : World) (B : Nat) (oc : Value → Array Value) (v2 i : Value) (wr : World) : Prop :=
  ∃ (j : Nat) (v1 : Value), j ≤ C ∧ i = .int .i64 j ∧ Two wr (fun _ => False) B 49 3 v1 v2 (g.rules.map (strR g n) ++ endR n j) (idxL g.rules.length ++ List.replicate j (-1)) ∧ Blk' wr O 24 (oc v1) ∧ Below O w4 wr ∧ B ≤ wr.heap.size

set_option maxRecDepth 100000 in
set_option maxHeartbeats 8000000 in
theorem straight_any (g : Gram) (m n : Nat) (A : Option Addr) (c : Nat) (S : Nat → Prop) (w : World) (hgt : g.terms = (m : Int)) (hgn : g.nons = (n : Int)) (hck : checkI g = 0) (hlc : g.rules.length ≤ c) (hc : c ≤ 9223372036854775807) (hA : Els w S g.rules A) (hS : ∀ b, S b → b < w.heap.size) :
    Calls Tryd.prog 9 #[.agg #[.int .i64 g.terms, .int .i64 g.nons, .int .i64 g.start, .slice A g.rules.length c]] w (RetSt g n w) := by
  have hv := validG_of hck
  have hn10' : n ≤ 10 := by have := hv.n10; omega
  obtain ⟨LL, hLL⟩ := lfix_ex g n hn10' (fun q hq => by have := hv.rules q hq; omega)
  obtain ⟨gt, gn, gs, rs⟩ := g
  dsimp only at *
  subst hgt; subst hgn
  have hn : 1 ≤ n ∧ n ≤ 10 := by have := hv.n1; dsimp only at *; omega
  have hrl : rs.length ≤ 32 := hv.len
  have hn9 : (n : Int) ≤ 10 := by omega
  have HV := Lib.hid hv
  have HS := Lib.hid hS
  have HC := Lib.hid hck
  have HLL := Lib.hid hLL
  obtain ⟨w1, hw1⟩ : ∃ w1 : World, w1 = (w.alloc (.cells #[.int .i64 (m : Int), .int .i64 (n : Int), .int .i64 gs, .slice A rs.length c] 24)).alloc (.cells #[.int .i64 0, .int .i64 0, .int .i64 0, .slice none 0 0] 24) := ⟨_, rfl⟩
  have HW1 := Lib.hid hw1
  have hb1 : Below w.heap.size w w1 := by rw [hw1]; exact ((Below.refl _ _).alloc (Nat.le_refl _) _).alloc (by simp) _
  have hG1 : Blk' w1 w.heap.size 24 #[.int .i64 (m : Int), .int .i64 (n : Int), .int .i64 gs, .slice A rs.length c] := by rw [hw1]; exact (Blk'.new w _ _).alloc _
  have hR1 : Blk' w1 (w.heap.size + 1) 24 #[.int .i64 0, .int .i64 0, .int .i64 0, .slice none 0 0] := by rw [hw1]; exact Blk'.new' _ _ _ (by simp)
  have HB1 := Lib.hid hb1
  have HG1 := Lib.hid hG1
  have HR1 := Lib.hid hR1
  have HA1 := Lib.hid (hA.below hb1)
  have HAw := Lib.hid hA
  have a0 : w1.cell? ⟨w.heap.size, 0, none⟩ = some (.int .i64 (m : Int)) := hG1.cell 0
  have a1 : w1.cell? ⟨w.heap.size, 1, none⟩ = some (.int .i64 (n : Int)) := hG1.cell 1
  have a2 : w1.cell? ⟨w.heap.size, 2, none⟩ = some (.int .i64 gs) := hG1.cell 2
  have a3 : w1.cell? ⟨w.heap.size, 3, none⟩ = some (.slice A rs.length c) := hG1.cell 3
  have zG : w.heap.size < w1.heap.size := hG1.lt
  clear hv hS hck hLL hw1 hb1 hG1 hR1 hA hn10'
  go_enter Tryd.func9, Tryd.ntmps9
  go_upto_region 1 with (fail)
  rw [← HW1.out]
  go_wp2_with fail
  refine (rcycle_any ⟨(m : Int), (n : Int), gs, rs⟩ m n A c S w1 LL rfl rfl HC.out hlc hc HA1.out (fun b hb => Nat.lt_of_lt_of_le (HS.out b hb) HB1.out.size) HLL.out).mono ?_
  rintro e w2 (⟨rfl, hno, hb2⟩ | ⟨kk, i, q, l, v, rfl, hcf, _, hb2⟩)
  rotate_left
  · have HBd : Hid (StrBad ⟨(m : Int), (n : Int), gs, rs⟩ n 9) := Lib.hid (.loop (fun h => h kk hcf.k1.1 hcf.k1.2 q (List.mem_of_getElem? hcf.rule) hcf.tab))
    have HB2 := Lib.hid (bthen HB1.out hb2 HB1.out.size)
    have HG2 := Lib.hid (HG1.out.below hb2 HG1.out.lt)
    have HR2 := Lib.hid (HR1.out.below hb2 HR1.out.lt)
    have HA2 := Lib.hid (HA1.out.below hb2)
    clear a0 a1 a2 a3 zG hcf hb2
    have r0 : w2.cell? ⟨w.heap.size + 1, 0, none⟩ = some (.int .i64 0) := HR2.out.cell 0
    have r1 : w2.cell? ⟨w.heap.size + 1, 1, none⟩ = some (.int .i64 0) := HR2.out.cell 1
    have r2 : w2.cell? ⟨w.heap.size + 1, 2, none⟩ = some (.int .i64 0) := HR2.out.cell 2
    have r3 : w2.cell? ⟨w.heap.size + 1, 3, none⟩ = some (.slice none 0 0) := HR2.out.cell 3
    have f0 : w2.frozen? ⟨w.heap.size + 1, 0, none⟩ = false := HR2.out.frozen 0
    have f1 : w2.frozen? ⟨w.heap.size + 1, 1, none⟩ = false := HR2.out.frozen 1
    have f2 : w2.frozen? ⟨w.heap.size + 1, 2, none⟩ = false := HR2.out.frozen 2
    have f3 : w2.frozen? ⟨w.heap.size + 1, 3, none⟩ = false := HR2.out.frozen 3
    have zR : w.heap.size + 1 < w2.heap.size := HR2.out.lt
    go_wp2_with fail
    generalize hwF : World.setCell _ _ _ = wF
    have hRF : Blk' wF (w.heap.size + 1) 24 #[.int .i64 0, .int .i64 0, .int .i64 0, .slice none 0 0] := by rw [← hwF]; exact (((HR2.out.set_ 0 _).set_ 1 _).set_ 2 _).set_ 3 _
    have hbF : Below w.heap.size w wF := by rw [← hwF]; exact (((HB2.out.setCell (p := ⟨w.heap.size + 1, 0, none⟩) (Nat.le_succ _) _).setCell (p := ⟨w.heap.size + 1, 1, none⟩) (Nat.le_succ _) _).setCell (p := ⟨w.heap.size + 1, 2, none⟩) (Nat.le_succ _) _).setCell (p := ⟨w.heap.size + 1, 3, none⟩) (Nat.le_succ _) _
    have u0 : wF.cell? ⟨w.heap.size + 1, 0, none⟩ = some (.int .i64 0) := hRF.cell 0
    have u1 : wF.cell? ⟨w.heap.size + 1, 1, none⟩ = some (.int .i64 0) := hRF.cell 1
    have u2 : wF.cell? ⟨w.heap.size + 1, 2, none⟩ = some (.int .i64 0) := hRF.cell 2
    have u3 : wF.cell? ⟨w.heap.size + 1, 3, none⟩ = some (.slice none 0 0) := hRF.cell 3
    clear hwF
    exact bodyPost_ret (v := .tuple #[.agg #[.int .i64 0, .int .i64 0, .int .i64 0, .slice none 0 0], .slice none 0 0, .int .i64 9]) (by simp [results, Tryd.results9, go_sem, u0, u1, u2, u3]) rfl (.inl ⟨9, HBd.out, rfl, hbF⟩)
  have HNo := Lib.hid hno
  have HB2 := Lib.hid (bthen HB1.out hb2 HB1.out.size)
  have HG2 := Lib.hid (HG1.out.below hb2 HG1.out.lt)
  have HR2 := Lib.hid (HR1.out.below hb2 HR1.out.lt)
  have HA2 := Lib.hid (HA1.out.below hb2)
  clear a0 a1 a2 a3 zG hno hb2
  have a0 : w2.cell? ⟨w.heap.size, 0, none⟩ = some (.int .i64 (m : Int)) := HG2.out.cell 0
  have a1 : w2.cell? ⟨w.heap.size, 1, none⟩ = some (.int .i64 (n : Int)) := HG2.out.cell 1
  have a2 : w2.cell? ⟨w.heap.size, 2, none⟩ = some (.int .i64 gs) := HG2.out.cell 2
  have a3 : w2.cell? ⟨w.heap.size, 3, none⟩ = some (.slice A rs.length c) := HG2.out.cell 3
  have zG : w.heap.size < w2.heap.size := HG2.out.lt
  go_wp2_with fail
  refine (tailsOf_any ⟨(m : Int), (n : Int), gs, rs⟩ n A c S w2 rfl HV.out hlc hc HA2.out (fun b hb => Nat.lt_of_lt_of_le (HS.out b hb) HB2.out.size)).mono ?_
  rintro e w3 ⟨vt, rfl, hot, hb3⟩
  have HB3 := Lib.hid (bthen HB2.out hb3 HB2.out.size)
  have HG3 := Lib.hid (HG2.out.below hb3 HG2.out.lt)
  have HR3 := Lib.hid (HR2.out.below hb3 HR2.out.lt)
  have HA3 := Lib.hid (HA2.out.below hb3)
  obtain ⟨tl, htl⟩ : ∃ tl, tl = tailsT ⟨(m : Int), (n : Int), gs, rs⟩ n := ⟨_, rfl⟩
  obtain ⟨Axl, ct, rfl, _, _, _⟩ := hot.form
  rw [← htl]
  rw [← htl] at hot
  obtain ⟨C, hC⟩ : ∃ C : Nat, C = cntRec ⟨(m : Int), (n : Int), gs, rs⟩ n := ⟨_, rfl⟩
  have htc : tl.length = C := by rw [htl, tailsT_len, hC]
  rw [htc]
  have hCn : C ≤ 10 := by have := cntRec_le ⟨(m : Int), (n : Int), gs, rs⟩ n; omega
  have HTl := Lib.hid htl
  have HCC := Lib.hid hC
  have HTc := Lib.hid htc
  have HOt := Lib.hid hot.vl.els.2.2.2
  obtain ⟨K, hK⟩ : ∃ K : Nat, K = n + C := ⟨_, rfl⟩
  have hK20 : K ≤ 20 := by omega
  have hwC : IntKind.i64.wrap ((n : Int) + (C : Int)) = (K : Int) := by rw [IntWalk.i64_in _ (by omega)]; omega
  have HK := Lib.hid hK
  clear a0 a1 a2 a3 zG hb3 hot htl hC htc hK
  have a0 : w3.cell? ⟨w.heap.size, 0, none⟩ = some (.int .i64 (m : Int)) := HG3.out.cell 0
  have a1 : w3.cell? ⟨w.heap.size, 1, none⟩ = some (.int .i64 (n : Int)) := HG3.out.cell 1
  have a2 : w3.cell? ⟨w.heap.size, 2, none⟩ = some (.int .i64 gs) := HG3.out.cell 2
  have a3 : w3.cell? ⟨w.heap.size, 3, none⟩ = some (.slice A rs.length c) := HG3.out.cell 3
  have zG : w.heap.size < w3.heap.size := HG3.out.lt
  by_cases hlg : 10 < K
  · have d1 : decide ((K : Int) > 10) = true := decide_eq_true (by omega)
    have d2 : decide (10 < K) = true := decide_eq_true hlg
    have HBd : Hid (StrBad ⟨(m : Int), (n : Int), gs, rs⟩ n 2) := Lib.hid (.large HNo.out (by rw [← HCC.out, ← HK.out]; exact hlg))
    clear hlg
    have r0 : w3.cell? ⟨w.heap.size + 1, 0, none⟩ = some (.int .i64 0) := HR3.out.cell 0
    have r1 : w3.cell? ⟨w.heap.size + 1, 1, none⟩ = some (.int .i64 0) := HR3.out.cell 1
    have r2 : w3.cell? ⟨w.heap.size + 1, 2, none⟩ = some (.int .i64 0) := HR3.out.cell 2
    have r3 : w3.cell? ⟨w.heap.size + 1, 3, none⟩ = some (.slice none 0 0) := HR3.out.cell 3
    have f0 : w3.frozen? ⟨w.heap.size + 1, 0, none⟩ = false := HR3.out.frozen 0
    have f1 : w3.frozen? ⟨w.heap.size + 1, 1, none⟩ = false := HR3.out.frozen 1
    have f2 : w3.frozen? ⟨w.heap.size + 1, 2, none⟩ = false := HR3.out.frozen 2
    have f3 : w3.frozen? ⟨w.heap.size + 1, 3, none⟩ = false := HR3.out.frozen 3
    have zR : w.heap.size + 1 < w3.heap.size := HR3.out.lt
    go_wp2_with fail
    generalize hwF : World.setCell _ _ _ = wF
    have hRF : Blk' wF (w.heap.size + 1) 24 #[.int .i64 0, .int .i64 0, .int .i64 0, .slice none 0 0] := by rw [← hwF]; exact (((HR3.out.set_ 0 _).set_ 1 _).set_ 2 _).set_ 3 _
    have hbF : Below w.heap.size w wF := by rw [← hwF]; exact (((HB3.out.setCell (p := ⟨w.heap.size + 1, 0, none⟩) (Nat.le_succ _) _).setCell (p := ⟨w.heap.size + 1, 1, none⟩) (Nat.le_succ _) _).setCell (p := ⟨w.heap.size + 1, 2, none⟩) (Nat.le_succ _) _).setCell (p := ⟨w.heap.size + 1, 3, none⟩) (Nat.le_succ _) _
    have u0 : wF.cell? ⟨w.heap.size + 1, 0, none⟩ = some (.int .i64 0) := hRF.cell 0
    have u1 : wF.cell? ⟨w.heap.size + 1, 1, none⟩ = some (.int .i64 0) := hRF.cell 1
    have u2 : wF.cell? ⟨w.heap.size + 1, 2, none⟩ = some (.int .i64 0) := hRF.cell 2
    have u3 : wF.cell? ⟨w.heap.size + 1, 3, none⟩ = some (.slice none 0 0) := hRF.cell 3
    clear hwF
    exact bodyPost_ret (v := .tuple #[.agg #[.int .i64 0, .int .i64 0, .int .i64 0, .slice none 0 0], .slice none 0 0, .int .i64 2]) (by simp [results, Tryd.results9, go_sem, u0, u1, u2, u3]) rfl (.inl ⟨2, HBd.out, rfl, hbF⟩)
  have d1 : decide ((K : Int) > 10) = false := decide_eq_false (by omega)
  have d2 : decide (10 < K) = false := decide_eq_false hlg
  have HKs := Lib.hid (show n + cntRec ⟨(m : Int), (n : Int), gs, rs⟩ n ≤ 10 by rw [← HCC.out, ← HK.out]; omega)
  have hK10 : K ≤ 10 := by omega
  obtain ⟨O, hO⟩ : ∃ O : Nat, O = w3.heap.size := ⟨_, rfl⟩
  obtain ⟨w4, hw4⟩ : ∃ w4 : World, w4 = w3.alloc (.cells #[.int .i64 (m : Int), .int .i64 (K : Int), .int .i64 gs, .slice none 0 0] 24) := ⟨_, rfl⟩
  have HW4 := Lib.hid hw4
  have hb4 : Below w3.heap.size w3 w4 := by rw [hw4]; exact (Below.refl _ _).alloc (Nat.le_refl _) _
  have HO4 : Hid (Blk' w4 O 24 #[.int .i64 (m : Int), .int .i64 (K : Int), .int .i64 gs, .slice none 0 0]) := Lib.hid (by rw [hO, hw4]; exact Blk'.new w3 _ _)
  have HB4 := Lib.hid (bthen HB3.out hb4 HB3.out.size)
  have HG4 := Lib.hid (HG3.out.below hb4 HG3.out.lt)
  have HR4 := Lib.hid (HR3.out.below hb4 HR3.out.lt)
  have HA4 := Lib.hid (HA3.out.below hb4)
  have HOt4 := Lib.hid (HOt.out.below hb4)
  have hOs : O < w4.heap.size := HO4.out.lt
  have HOz : Hid (w.heap.size + 1 < O ∧ (∀ b, b < w3.heap.size → b < O) ∧ w4.heap.size = O + 1) := Lib.hid ⟨by rw [hO]; exact HR3.out.lt, fun b hb => by rw [hO]; exact hb, by rw [hw4, hO]; simp⟩
  clear hlg hb4
  go_upto_region 8 with (fail)
  rw [← HW4.out]
  clear hw4 a0 a1 a2 a3 zG
  have a3 : w4.cell? ⟨w.heap.size, 3, none⟩ = some (.slice A rs.length c) := HG4.out.cell 3
  have zG : w.heap.size < w4.heap.size := HG4.out.lt
  rw [← hO]
  go_wp2_with fail
  clear a3 zG hO d1 d2
  go_loopw [9, 46] (fun v i wr => StR ⟨(m : Int), (n : Int), gs, rs⟩ n O w4 w4.heap.size (fun v1 => #[.int .i64 (m : Int), .int .i64 (K : Int), .int .i64 gs, v1]) v i wr) (fun _ i _ => rs.length - (intOf i).toNat)
  case atStart => exact ⟨0, _, Nat.zero_le _, rfl, Two.nil _ _ _ _ _, HO4.out, Below.refl _ _, Nat.le_refl _⟩
  case round =>
    obtain ⟨wo, hwo⟩ : ∃ wo : World, wo = wr := ⟨_, rfl⟩
    subst hwo
    obtain ⟨j, v1, hj, rfl, htwo, hOb, hbo, hB8o⟩ := hrel
    dsimp only at hOb
    have hj' : j ≤ rs.length := hj
    have H2 := Lib.hid htwo
    have HOo := Lib.hid hOb
    have HB4o := Lib.hid hbo
    have HZo := Lib.hid hB8o
    have HBo := Lib.hid (HB4.out.trans (hbo.mono (by have := HOz.out; omega)))
    have HGo := Lib.hid (HG4.out.below hbo (by have := HOz.out; omega))
    clear htwo hOb hbo hB8o hj
    by_cases hjn : j < rs.length
    · obtain ⟨q, hq⟩ := get_some hjn
      obtain ⟨bq, oq, Aq, cq, eA, hSb, hbs, hqi, hrc, hcr, hEr, hc0, hc1⟩ := (HAw.out.belowB HBo.out HS.out).rule hq
      subst eA
      have hql := HV.out.rules q (List.mem_of_getElem? hq)
      have HQ := Lib.hid hq
      obtain ⟨ql, qr⟩ := q
      dsimp only at hqi hrc hcr hEr hc0 hc1 hql
      obtain ⟨z, rfl⟩ : ∃ z : Nat, ql = (z : Int) := ⟨ql.toNat, by omega⟩
      have hzn : z < n := by omega
      have hqr4 : qr.length ≤ 4 := hql.2.2.1
      obtain ⟨w5, hw5⟩ : ∃ w5 : World, w5 = wo.alloc (.cells #[.int .i64 (z : Int), .slice Aq qr.length cq] 49) := ⟨_, rfl⟩
      have HW5 := Lib.hid hw5
      have hb5 : Below wo.heap.size wo w5 := by rw [hw5]; exact (Below.refl _ _).alloc (Nat.le_refl _) _
      have hX5 : Blk' w5 wo.heap.size 49 #[.int .i64 (z : Int), .slice Aq qr.length cq] := by rw [hw5]; exact Blk'.new wo _ _
      have HB5 := Lib.hid hb5
      have HX5 := Lib.hid hX5
      have HE5 := Lib.hid (hEr.below hb5)
      have HQi := Lib.hid (And.intro hqi (And.intro hrc hcr))
      have HOt5 : Hid (Els w5 (fun b => b < w3.heap.size) tl Axl) := Lib.hid (((HOt4.out.belowB (B := O) (HB4o.out.trans (hb5.mono (by have := HOz.out; have := HZo.out; omega))) (fun b hb => HOz.out.2.1 b hb.2))).keep (fun _ _ _ => rfl) (fun b hb => hb.2))
      have hidx : Calls Tryd.prog 20 #[.slice Axl C ct, .int .i64 (z : Int)] w5 fun e w' => e = .returned (.int .i64 (idxI (fun x => (z : Int) == x) tl)) ∧ w5 = w' := by
        rw [← HTc.out]
        exact indexInt_any Axl ct tl (z : Int) _ w5 (by rw [HTc.out]; omega) HOt5.out
      have HIdx := Lib.hid hidx
      have x0 : w5.cell? ⟨wo.heap.size, 0, none⟩ = some (.int .i64 (z : Int)) := hX5.cell 0
      have x1 : w5.cell? ⟨wo.heap.size, 1, none⟩ = some (.slice Aq qr.length cq) := hX5.cell 1
      have zX : wo.heap.size < w5.heap.size := hX5.lt
      have hj0 : (0 : Int) ≤ (j : Int) := by omega
      have hj1 : (j : Int) < (rs.length : Int) := by omega
      clear hw5 hb5 hX5 hEr hql hSb hq hqi hrc hcr hidx
      go_upto_region 12 with (fail)
      rw [← HW5.out]
      clear hc0 hc1
      go_wp2_with fail
      refine HIdx.out.mono ?_
      rintro e w5' ⟨rfl, rfl⟩
      obtain ⟨ix, hix⟩ : ∃ ix : Int, ix = idxI (fun x => (z : Int) == x) tl := ⟨_, rfl⟩
      rw [← hix]
      have HIx : Hid ((ix < 0 ∧ tailI ⟨(m : Int), (n : Int), gs, rs⟩ n z < 0 ∧ ix = -1) ∨ (∃ k : Nat, ix = (k : Int) ∧ tailI ⟨(m : Int), (n : Int), gs, rs⟩ n z = ((n + k : Nat) : Int) ∧ k ≤ z)) := Lib.hid (by
        have h := idx_tail (g := ⟨(m : Int), (n : Int), gs, rs⟩) hzn
        rw [← HTl.out, ← hix] at h
        exact h)
      have HB6 : Hid (Below w5.heap.size w5 (w5.alloc (.cells #[] 45))) := Lib.hid ((Below.refl w5.heap.size w5).alloc (Nat.le_refl _) _)
      have HO6 := Lib.hid (Own.made (α := Sym) (w := w5) (fun b => b < w5.heap.size) (base := w5.heap.size) (e := 45) (cur := #[]) (cap := 0) (Nat.le_refl _) (by omega) rfl)
      have HE6 := Lib.hid ((HE5.out.below HB6.out).keep (S' := OwnT (fun b => b < w5.heap.size) w5.heap.size (.slice (some ⟨w5.heap.size, 0, none⟩) 0 0) (w5.alloc (.cells #[] 45))) (fun _ _ _ => rfl) (fun b hb => by
        have h1 : b < w5.heap.size := by have := HS.out b hb; have := HBo.out.size; omega
        exact ⟨.inl h1, by simp [Value.ownBlock]; omega, by simp; omega⟩))
      clear hix
      go_upto_region 14 with (at_builtin; (refine wpList_ownMany _ rfl _ _ elemSym rfl rfl HO6.out qr rfl rfl HE6.out (by simp; omega) (by simp; omega) (by simp) ?_); (intro v' w7 hown' hg' _); (have HO7 : Hid (Own w7 (fun _ => False) w5.heap.size 45 v' qr) := Lib.hid hown'); (have HB7 : Hid (Below w5.heap.size w5 w7) := Lib.hid (bgrown HB6.out hg' HO6.out (Nat.le_refl _) (by simp))); (clear hown' hg'))
      obtain ⟨ao, cap, rfl, hcm⟩ := CameS.of_own HO7.out
      have HCm := Lib.hid hcm
      have HX7 := Lib.hid (HX5.out.below HB7.out HX5.out.lt)
      have HB07 := Lib.hid (bthen HB5.out HB7.out HB5.out.size)
      have hs57 := HB7.out.size
      have hs05 : wo.heap.size < w5.heap.size := HX5.out.lt
      clear x0 x1 zX hcm HO6 HE6 HB6
      have x0 : w7.cell? ⟨wo.heap.size, 0, none⟩ = some (.int .i64 (z : Int)) := HX7.out.cell 0
      have zX : wo.heap.size < w7.heap.size := HX7.out.lt
      go_upto_if 62 with (fail)
      clear x0
      go_cut [13, 14] (fun p li wx => ∃ (l' : Int) (r' : List Sym) (A' : Option Addr) (c' : Nat), strR ⟨(m : Int), (n : Int), gs, rs⟩ n ⟨(z : Int), qr⟩ = ⟨l', r'⟩ ∧ li = .int .i64 l' ∧ p = .slice A' r'.length c' ∧ I64 l' ∧ r'.length ≤ c' ∧ c' ≤ 9223372036854775807 ∧ Els wx (fun b => wo.heap.size < b ∧ b < wx.heap.size) r' A' ∧ Below wo.heap.size wo wx)
      case first =>
        rcases HIx.out with ⟨_, htl, hix⟩ | ⟨kk, hix, htl, hkz⟩
        · have HSt := Lib.hid (show strR ⟨(m : Int), (n : Int), gs, rs⟩ n ⟨(z : Int), qr⟩ = ⟨(z : Int), qr⟩ by
            unfold strR
            dsimp only
            rw [Int.toNat_natCast, if_pos htl])
          subst hix
          clear htl
          go_wp2
          go_meet
          exact ⟨_, _, _, _, HSt.out, rfl, rfl, HQi.out.1, HCm.out.le, HCm.out.max, HCm.out.els (fun b h1 h2 h3 => ⟨by omega, h3⟩), HB07.out⟩
        · obtain ⟨T, hT⟩ : ∃ T : Nat, T = n + kk := ⟨_, rfl⟩
          rw [← hT] at htl
          have hT20 : T ≤ 20 := by omega
          have hTz : (T : Int) ≠ (z : Int) := by omega
          have hwT : IntKind.i64.wrap ((n : Int) + (kk : Int)) = (T : Int) := by rw [IntWalk.i64_in _ (by omega)]; omega
          have HSt := Lib.hid (show strR ⟨(m : Int), (n : Int), gs, rs⟩ n ⟨(z : Int), qr⟩ = if recB ⟨(z : Int), qr⟩ then ⟨(T : Int), qr.drop 1 ++ [⟨false, (T : Int)⟩]⟩ else ⟨(z : Int), qr ++ [⟨false, (T : Int)⟩]⟩ by
            unfold strR
            dsimp only
            rw [Int.toNat_natCast, htl, if_neg (by omega)])
          have HTz := Lib.hid hTz
          have hT64 : I64 (T : Int) := by unfold I64; omega
          have HT64 := Lib.hid hT64
          subst hix
          have d3 : (0 : Int) ≤ (kk : Int) := by omega
          have HG7 := Lib.hid ((HGo.out.below HB07.out (by have := HOz.out; have := HZo.out; omega)))
          have a1 : w7.cell? ⟨w.heap.size, 1, none⟩ = some (.int .i64 (n : Int)) := HG7.out.cell 1
          have zG : w.heap.size < w7.heap.size := HG7.out.lt
          clear htl hT hTz hT64 hkz
          go_upto_region 17 with (at_builtin; (refine CameS.wpList_push rfl _ _ elemSym (HCm.out.below ((Below.refl _ _).alloc (Nat.le_refl _) _)) rfl rfl ⟨false, (T : Int)⟩ HT64.out rfl (by simp) (by simp; omega) (At.new w7 [.bool false, .int .i64 (T : Int)] 45) (by omega) (by omega) ?_); (intro A9 c9 w9 h91 h92 hE9 hK9); (have HE9 := Lib.hid hE9); (have HK9 := Lib.hid hK9); (have HN9 := Lib.hid (And.intro h91 h92)); (clear hE9 hK9 h91 h92))
          have hal : Below w7.heap.size w7 (w7.alloc (.cells #[.bool false, .int .i64 (T : Int)] 45)) := (Below.refl _ _).alloc (Nat.le_refl _) _
          have HB09 : Hid (Below wo.heap.size wo w9) := Lib.hid ((bthen HB07.out hal HB07.out.size).trans (HK9.out.to_below (fun b hb => by omega) (by have := hal.size; omega)))
          have hs79 : w7.heap.size < w9.heap.size := by have h := HK9.out.size; simp at h; omega
          have hl1 : 0 < (qr ++ [(⟨false, (T : Int)⟩ : Sym)]).length := by simp
          obtain ⟨s1, hs1⟩ := get_some hl1
          obtain ⟨b9, o9, rfl, _, zs9, _, y0, y1⟩ := HE9.out.sym hs1
          simp only [Nat.zero_mul, Nat.mul_zero, Nat.add_zero] at y0 y1
          have HRc := Lib.hid (first_rec hs1 HTz.out)
          obtain ⟨t1, n1⟩ := s1
          dsimp only at y0 y1
          have e0 : (0 : Int) < (qr.length : Int) + 1 := by omega
          clear a1 zG hal hl1 hs1
          by_cases hh : t1 = false ∧ n1 = (z : Int)
          · obtain ⟨rfl, hnz⟩ := hh
            have e2 : (n1 == (z : Int)) = true := by simp [hnz]
            have hrec : recB ⟨(z : Int), qr⟩ = true := by rw [HRc.out, hnz]; simp
            have HRec := Lib.hid hrec
            obtain ⟨s0, r0, hqr⟩ : ∃ s0 r0, qr = s0 :: r0 := by
              cases hq0 : qr with
              | nil => rw [hq0] at hrec; simp [recB] at hrec
              | cons s0 r0 => exact ⟨s0, r0, rfl⟩
            have hq1 : 1 ≤ qr.length := by rw [hqr]; simp
            have hc9 := HN9.out.1
            have e3 : (1 : Int) ≤ (qr.length : Int) + 1 := by omega
            have e4 : (c9 = 1) = False := by simp; omega
            have e5 : (1 : Int) ≤ (c9 : Int) := by omega
            have e6 : (qr.length : Int) + 1 ≤ (c9 : Int) := by omega
            have HDr : Hid (Els w9 (fun b => w5.heap.size ≤ b ∧ (b < w7.heap.size ∨ (w7.alloc (.cells #[.bool false, .int .i64 (T : Int)] 45)).heap.size ≤ b) ∧ b < w9.heap.size) (qr.drop 1 ++ [⟨false, (T : Int)⟩]) (some ⟨b9, o9 + 2, none⟩)) := Lib.hid (by
              have h := HE9.out.dropS 1
              rw [List.drop_append_of_le_length hq1] at h
              exact h)
            have hlen : (qr.drop 1 ++ [(⟨false, (T : Int)⟩ : Sym)]).length = qr.length := by rw [List.length_append, List.length_drop]; simp; omega
            have HLn := Lib.hid hlen
            have HG9 := Lib.hid ((HGo.out.below HB09.out (by have := HOz.out; have := HZo.out; omega)))
            have a1 : w9.cell? ⟨w.heap.size, 1, none⟩ = some (.int .i64 (n : Int)) := HG9.out.cell 1
            have zG : w.heap.size < w9.heap.size := HG9.out.lt
            have HQ1 := Lib.hid (And.intro hq1 hc9)
            clear hrec hqr hnz hlen hc9
            go_wp2_with fail
            go_quiet (fail)
            go_wp2
            go_meet
            exact ⟨(T : Int), qr.drop 1 ++ [⟨false, (T : Int)⟩], some ⟨b9, o9 + 2, none⟩, c9 - 1, by rw [HSt.out, if_pos HRec.out], rfl, by rw [HLn.out], HT64.out, by rw [HLn.out]; have := HQ1.out; omega, by have := HN9.out.2; omega, (HDr.out.keep (S' := fun b => wo.heap.size < b ∧ b < w9.heap.size) (fun _ _ _ => rfl) (fun b hb => ⟨by omega, hb.2.2⟩)).below (bdrewN (Below.refl _ _)), bdrewN HB09.out⟩
          · have hrec : recB ⟨(z : Int), qr⟩ = false := by
              rw [HRc.out]
              have : ¬ ((⟨t1, n1⟩ : Sym) = ⟨false, (z : Int)⟩) := fun h => by injection h with h1 h2; exact hh ⟨h1, h2⟩
              simp [this]
            have HSn := Lib.hid (show strR ⟨(m : Int), (n : Int), gs, rs⟩ n ⟨(z : Int), qr⟩ = ⟨(z : Int), qr ++ [⟨false, (T : Int)⟩]⟩ by rw [HSt.out, hrec]; rfl)
            have HLn : Hid ((qr ++ [(⟨false, (T : Int)⟩ : Sym)]).length = qr.length + 1) := Lib.hid (by simp)
            clear hrec
            cases t1 with
            | true =>
              go_wp2
              go_meet
              exact ⟨(z : Int), qr ++ [⟨false, (T : Int)⟩], some ⟨b9, o9, none⟩, c9, HSn.out, rfl, by rw [HLn.out], HQi.out.1, by rw [HLn.out]; exact HN9.out.1, HN9.out.2, HE9.out.keep (fun _ _ _ => rfl) (fun b hb => ⟨by omega, hb.2.2⟩), HB09.out⟩
            | false =>
              have e2 : (n1 == (z : Int)) = false := by simp; exact fun h => hh ⟨rfl, h⟩
              clear hh
              go_wp2
              go_meet
              exact ⟨(z : Int), qr ++ [⟨false, (T : Int)⟩], some ⟨b9, o9, none⟩, c9, HSn.out, rfl, by rw [HLn.out], HQi.out.1, by rw [HLn.out]; exact HN9.out.1, HN9.out.2, HE9.out.keep (fun _ _ _ => rfl) (fun b hb => ⟨by omega, hb.2.2⟩), HB09.out⟩
      case rest =>
      obtain ⟨l', r', A', c', hst, rfl, rfl, hl64, hr1, hr2, hE12, hb12⟩ := hcut
      obtain ⟨w12, hw12⟩ : ∃ w12 : World, w12 = wc := ⟨_, rfl⟩
      subst hw12
      have HSt := Lib.hid hst
      have HB12 := Lib.hid hb12
      have hOz := HOz.out
      have hZo := HZo.out
      have hs12 := hb12.size
      have hOO : O < wo.heap.size := HOo.out.lt
      have HOb := Lib.hid (HOo.out.below hb12 hOO)
      have hk1 : ∀ k, v1.ownBlock = some k → w4.heap.size ≤ k ∧ k < wo.heap.size := fun k hk => ⟨(H2.out.1.block k hk).1, (H2.out.1.block k hk).2⟩
      have hk2 := fun k hk => (H2.out.2.1.block k hk)
      have HT0 := Lib.hid ((H2.out.below hb12 (Nat.le_refl _)).alloc (.cells #[.int .i64 l', .slice A' r'.length c'] 49))
      have hal : Below w12.heap.size w12 (w12.alloc (.cells #[.int .i64 l', .slice A' r'.length c'] 49)) := (Below.refl _ _).alloc (Nat.le_refl _) _
      have HEr := Lib.hid (And.intro hl64 (And.intro hr1 (And.intro hr2 ((hE12.below hal).keep (S' := T2 (fun _ => False) w4.heap.size v1 _ (w12.alloc (.cells #[.int .i64 l', .slice A' r'.length c'] 49))) (fun _ _ _ => rfl) (fun b hb => ⟨.inr (by omega), fun e => by have := (hk1 b e).2; omega, fun e => by have := (hk2 b e).2; omega, Nat.lt_of_lt_of_le hb.2 hal.size⟩)))))
      have HLx : Hid (((rs.take j).map (strR ⟨(m : Int), (n : Int), gs, rs⟩ n)).length = j) := Lib.hid (by simp; omega)
      have HLi : Hid ((idxL j).length = j) := Lib.hid (idxL_len j)
      have HJ64 : Hid (I64 (j : Int)) := Lib.hid (by unfold I64; omega)
      have o3 : w12.cell? ⟨O, 3, none⟩ = some v1 := HOb.out.cell 3
      have zO : O < w12.heap.size := HOb.out.lt
      have HOsz := Lib.hid (And.intro hOz (And.intro hZo (And.intro hs12 hOO)))
      have hcA : (j + 1) * 32 ≤ 140737488355328 := by omega
      have hbA : w4.heap.size ≤ (w12.alloc (.cells #[.int .i64 l', .slice A' r'.length c'] 49)).heap.size := by simp; omega
      clear hst hl64 hr1 hr2 hE12 hb12 hOz hs12 hOO hk1 hk2 hal hs57 hs05 zX
      go_upto_region 19 with (fail)
      go_upto_region 20 with (first
        | (at_builtin; (refine wpList_two1 _ rfl _ _ elemRule rfl rfl HT0.out ⟨l', r'⟩ [.int .i64 l', .slice A' r'.length c'] rfl (At.new _ _ _) ⟨_, rfl, HEr.out.1, Vl.of_slice rfl HEr.out.2.1 HEr.out.2.2.1 HEr.out.2.2.2⟩ (by rw [HLx.out]; exact hcA) (by rw [HLx.out]; omega) hbA ?_); (intro v1' w13 hA gA aA); (obtain ⟨A13, c13, ev13, _⟩ := hA.1.form); (rw [snoc_len, HLx.out] at ev13); (subst ev13); (have HA := Lib.hid (And.intro hA gA)); (have hO13 := (HOb.out.alloc (.cells #[.int .i64 l', .slice A' r'.length c'] 49)).grown gA (fun e => by have := (HT0.out.1.block _ e.symm).1; have := HOsz.out; omega)); (have HO13 := Lib.hid hO13); (have hs13 := gA.size); (clear hA gA aA hO13))
        | (at_builtin; (refine wpList_two1 _ rfl _ _ elemInt rfl rfl ((HA.out.1.alloc (.cells #[.int .i64 (j : Int)] 3)).swap) (j : Int) [.int .i64 (j : Int)] rfl (At.new _ _ _) ⟨rfl, HJ64.out⟩ (by rw [HLi.out]; omega) (by rw [HLi.out]; omega) (by have := HA.out.2.size; simp; simp at hbA this; omega) ?_); (intro v2' w14 hB gB aB); (obtain ⟨A14, c14, ev14, _⟩ := hB.1.form); (rw [snoc_len, HLi.out] at ev14); (subst ev14); (have HBb := Lib.hid (And.intro hB.swap gB)); (have hO14 := (HO13.out.alloc (.cells #[.int .i64 (j : Int)] 3)).grown gB (fun e => by have := (HA.out.1.2.1.block _ e.symm).1; have := HOsz.out; omega)); (have HO14 := Lib.hid hO14); (have p3 : w14.cell? ⟨O, 3, none⟩ = some v1 := hO14.cell 3); (have f3 := hO14.frozen 3); (have zO14 : O < w14.heap.size := hO14.lt); (clear hB gB aB hO14)))
      have b0 := HB4o.out.trans (HB12.out.mono (by have := HOsz.out; omega))
      have b1 := b0.alloc (by have := HOsz.out; omega) (.cells #[.int .i64 l', .slice A' r'.length c'] 49)
      have b2 := b1.grown HA.out.2 (by have := HOsz.out; simp; omega) (fun k hk => by have := (HT0.out.1.block k hk).1; have := HOsz.out; omega)
      have b3 := b2.alloc (by have := HOsz.out; have h := HA.out.2.size; simp at h; omega) (.cells #[.int .i64 (j : Int)] 3)
      have b4 := b3.grown HBb.out.2 (by have := HOsz.out; have h := HA.out.2.size; simp at h; simp; omega) (fun k hk => by have := (HA.out.1.2.1.block k hk).1; have := HOsz.out; omega)
      have b5 := b4.setCell (p := ⟨O, 3, none⟩) (Nat.le_refl _) (.slice A13 (j + 1) c13)
      have h2 := HBb.out.1.set_ (p := ⟨O, 3, none⟩) (fun h => h.elim id (fun h => by have h : w4.heap.size ≤ O := h; have := HOz.out; omega)) (.slice A13 (j + 1) c13)
      rw [← idxL_snoc, ← HSt.out, ← List.map_singleton, ← List.map_append, ← take_snoc HQ.out] at h2
      have h3 := HO14.out.set_ 3 (.slice A13 (j + 1) c13)
      have h5 : w4.heap.size ≤ (w14.setCell ⟨O, 3, none⟩ (.slice A13 (j + 1) c13)).heap.size := by
        have h := HA.out.2.size
        have h' := HBb.out.2.size
        have := HOsz.out
        simp at h h'
        simp [World.setCell]
        omega
      have HEnd := Lib.hid (And.intro h2 (And.intro h3 (And.intro b5 h5)))
      clear b0 b1 b2 b3 b4 b5 h2 h3 h5 o3 zO hbA
      go_wp2_with fail
      go_roundw
      case rel => exact ⟨j + 1, _, hjn, by go_num, HEnd.out.1, HEnd.out.2.1, HEnd.out.2.2.1, HEnd.out.2.2.2⟩
      case measure => simp [intOf]; omega
    · have hjl : j = rs.length := by omega
      subst hjl
      have ht : rs.take rs.length = rs := List.take_length
      have H3 := Lib.hid (show Two wo (fun _ => False) w4.heap.size 49 3 v1 _ (rs.map (strR ⟨(m : Int), (n : Int), gs, rs⟩ n) ++ endR n 0) (idxL rs.length ++ List.replicate 0 (-1)) from (by
        have h := H2.out
        rw [ht] at h
        simpa [endR] using h))
      clear H2 ht hjn hj'
      have hjn : ¬ (rs.length : Int) < (rs.length : Int) := by omega
      go_wp2_with fail
      go_loopw [9, 98] (fun v i wr => StE ⟨(m : Int), (n : Int), gs, rs⟩ n C O w4 w4.heap.size (fun v1 => #[.int .i64 (m : Int), .int .i64 (K : Int), .int .i64 gs, v1]) v i wr) (fun _ i _ => C - (intOf i).toNat)
      case atStart => exact ⟨0, v1, Nat.zero_le _, rfl, H3.out, HOo.out, HB4o.out, HZo.out⟩
      case round =>
        clear HOo HB4o HZo HBo HGo H3
        obtain ⟨wo, hwo⟩ : ∃ wo : World, wo = wr := ⟨_, rfl⟩
        subst hwo
        obtain ⟨i, v1, hi, rfl, htwo, hOb, hbo, hB8o⟩ := hrel
        dsimp only at hOb
        have H2 := Lib.hid htwo
        have HOo := Lib.hid hOb
        have HB4o := Lib.hid hbo
        have HZo := Lib.hid hB8o
        have HBo := Lib.hid (HB4.out.trans (hbo.mono (by have := HOz.out; omega)))
        have HGo := Lib.hid (HG4.out.below hbo (by have := HOz.out; omega))
        have HRo := Lib.hid (HR4.out.below hbo (by have := HOz.out; omega))
        clear htwo hOb hbo hB8o
        by_cases hiC : i < C
        · obtain ⟨T, hT⟩ : ∃ T : Nat, T = n + i := ⟨_, rfl⟩
          have hwT : IntKind.i64.wrap ((n : Int) + (i : Int)) = (T : Int) := by rw [IntWalk.i64_in _ (by omega)]; omega
          have d0 : (i : Int) < (C : Int) := by omega
          have hT20 : T ≤ 20 := by omega
          have HT' := Lib.hid hT
          have hOO : O < wo.heap.size := HOo.out.lt
          have HOsz := Lib.hid (And.intro HOz.out (And.intro HZo.out hOO))
          have HT0 := Lib.hid (H2.out.alloc (.cells #[.int .i64 (T : Int), .slice none 0 0] 49))
          have HT64 : Hid (I64 (T : Int)) := Lib.hid (by unfold I64; omega)
          obtain ⟨Ln, hLn⟩ : ∃ Ln : Nat, Ln = rs.length + i := ⟨_, rfl⟩
          have hLn64 : Ln ≤ 64 := by omega
          have HLx : Hid ((rs.map (strR ⟨(m : Int), (n : Int), gs, rs⟩ n) ++ endR n i).length = Ln) := Lib.hid (by rw [List.length_append, List.length_map, endR_len, hLn])
          have HLi : Hid ((idxL rs.length ++ List.replicate i (-1 : Int)).length = Ln) := Lib.hid (by rw [List.length_append, idxL_len, List.length_replicate, hLn])
          have o3 : wo.cell? ⟨O, 3, none⟩ = some v1 := HOo.out.cell 3
          have a1 : wo.cell? ⟨w.heap.size, 1, none⟩ = some (.int .i64 (n : Int)) := HGo.out.cell 1
          have zO : O < wo.heap.size := hOO
          have zG : w.heap.size < wo.heap.size := HGo.out.lt
          have hcA : (Ln + 1) * 32 ≤ 140737488355328 := by omega
          have hbA : w4.heap.size ≤ (wo.alloc (.cells #[.int .i64 (T : Int), .slice none 0 0] 49)).heap.size := by have := HZo.out; simp; omega
          clear hOO hT hLn
          go_upto_region 24 with (fail)
          go_upto_region 25 with (first
            | (at_builtin; (refine wpList_two1 _ rfl _ _ elemRule rfl rfl HT0.out ⟨(T : Int), []⟩ [.int .i64 (T : Int), .slice none 0 0] rfl (At.new _ _ _) ⟨_, rfl, HT64.out, Vl.nil⟩ (by rw [HLx.out]; exact hcA) (by rw [HLx.out]; omega) hbA ?_); (intro v1' w13 hA gA aA); (obtain ⟨A13, c13, ev13, _⟩ := hA.1.form); (rw [snoc_len, HLx.out] at ev13); (subst ev13); (have HA := Lib.hid (And.intro hA gA)); (have hO13 := (HOo.out.alloc (.cells #[.int .i64 (T : Int), .slice none 0 0] 49)).grown gA (fun e => by have := (HT0.out.1.block _ e.symm).1; have := HOsz.out; omega)); (have HO13 := Lib.hid hO13); (have hs13 := gA.size); (clear hA gA aA hO13))
            | (at_builtin; (refine wpList_two1 _ rfl _ _ elemInt rfl rfl ((HA.out.1.alloc (.cells #[.int .i64 (-1)] 3)).swap) (-1 : Int) [.int .i64 (-1)] rfl (At.new _ _ _) ⟨rfl, by unfold I64; omega⟩ (by rw [HLi.out]; omega) (by rw [HLi.out]; omega) (by have := HA.out.2.size; simp; simp at hbA this; omega) ?_); (intro v2' w14 hB gB aB); (obtain ⟨A14, c14, ev14, _⟩ := hB.1.form); (rw [snoc_len, HLi.out] at ev14); (subst ev14); (have HBb := Lib.hid (And.intro hB.swap gB)); (have hO14 := (HO13.out.alloc (.cells #[.int .i64 (-1)] 3)).grown gB (fun e => by have := (HA.out.1.2.1.block _ e.symm).1; have := HOsz.out; omega)); (have HO14 := Lib.hid hO14); (have p3 : w14.cell? ⟨O, 3, none⟩ = some v1 := hO14.cell 3); (have f3 := hO14.frozen 3); (have zO14 : O < w14.heap.size := hO14.lt); (clear hB gB aB hO14)))
          have b1 := HB4o.out.alloc (by have := HOsz.out; omega) (.cells #[.int .i64 (T : Int), .slice none 0 0] 49)
          have b2 := b1.grown HA.out.2 (by have := HOsz.out; simp; omega) (fun k hk => by have := (HT0.out.1.block k hk).1; have := HOsz.out; omega)
          have b3 := b2.alloc (by have := HOsz.out; have h := HA.out.2.size; simp at h; omega) (.cells #[.int .i64 (-1)] 3)
          have b4 := b3.grown HBb.out.2 (by have := HOsz.out; have h := HA.out.2.size; simp at h; simp; omega) (fun k hk => by have := (HA.out.1.2.1.block k hk).1; have := HOsz.out; omega)
          have b5 := b4.setCell (p := ⟨O, 3, none⟩) (Nat.le_refl _) (.slice A13 (Ln + 1) c13)
          have h2 := HBb.out.1.set_ (p := ⟨O, 3, none⟩) (fun h => h.elim id (fun h => by have h : w4.heap.size ≤ O := h; have := HOz.out; omega)) (.slice A13 (Ln + 1) c13)
          rw [List.append_assoc, List.append_assoc, HT'.out, ← endR_snoc, show List.replicate i (-1 : Int) ++ [-1] = List.replicate (i + 1) (-1) from (List.replicate_succ').symm] at h2
          have h3 := HO14.out.set_ 3 (.slice A13 (Ln + 1) c13)
          have h5 : w4.heap.size ≤ (w14.setCell ⟨O, 3, none⟩ (.slice A13 (Ln + 1) c13)).heap.size := by
            have h := HA.out.2.size
            have h' := HBb.out.2.size
            have := HOsz.out
            simp at h h'
            simp [World.setCell]
            omega
          have HEnd := Lib.hid (And.intro h2 (And.intro h3 (And.intro b5 h5)))
          clear b1 b2 b3 b4 b5 h2 h3 h5 o3 zO hbA a1 zG
          go_wp2_with fail
          go_roundw
          case rel => exact ⟨i + 1, _, hiC, by go_num, HEnd.out.1, HEnd.out.2.1, HEnd.out.2.2.1, HEnd.out.2.2.2⟩
          case measure => simp [intOf]; omega
        · have hi' : i = C := by omega
          subst hi'
          have d0 : ¬ (i : Int) < (i : Int) := by omega
          obtain ⟨A1, c1, rfl, q11, q12, _⟩ := H2.out.1.form
          obtain ⟨A2, c2, rfl, q21, q22, _⟩ := H2.out.2.1.form
          obtain ⟨xs, hxs⟩ : ∃ xs : List Rule, xs = rs.map (strR ⟨(m : Int), (n : Int), gs, rs⟩ n) ++ endR n i := ⟨_, rfl⟩
          obtain ⟨fs, hfs⟩ : ∃ fs : List Int, fs = idxL rs.length ++ List.replicate i (-1) := ⟨_, rfl⟩
          rw [← hxs] at q11 H2 HOo
          rw [← hfs] at q21 H2
          rw [← hfs]
          have hsg : strG ⟨(m : Int), (n : Int), gs, rs⟩ n = ⟨(m : Int), (K : Int), gs, xs⟩ := by
            have h := HK.out
            unfold strG
            dsimp only
            rw [← HCC.out, ← hxs, ← h]
          have hfg : fromL ⟨(m : Int), (n : Int), gs, rs⟩ n = fs := by
            unfold fromL
            dsimp only
            rw [← HCC.out, ← hfs]
          have HSG := Lib.hid hsg
          have HFG := Lib.hid hfg
          have HE1 := Lib.hid H2.out.vl1.els.2.2.2
          have HE2 := Lib.hid H2.out.vl2.els.2.2.2
          have hzo := HZo.out
          have hoz := HOz.out
          have o0 : wo.cell? ⟨O, 0, none⟩ = some (.int .i64 (m : Int)) := HOo.out.cell 0
          have o1 : wo.cell? ⟨O, 1, none⟩ = some (.int .i64 (K : Int)) := HOo.out.cell 1
          have o2 : wo.cell? ⟨O, 2, none⟩ = some (.int .i64 gs) := HOo.out.cell 2
          have o3 : wo.cell? ⟨O, 3, none⟩ = some (.slice A1 xs.length c1) := HOo.out.cell 3
          have zO : O < wo.heap.size := HOo.out.lt
          have HK64 := Lib.hid (And.intro HV.out.i64.1 (And.intro (show I64 (K : Int) by unfold I64; omega) HV.out.i64.2.2))
          clear hxs hfs hsg hfg
          go_wp2_with fail
          refine (gramErr_any ⟨(m : Int), (K : Int), gs, xs⟩ A1 c1 _ wo HK64.out q11 q12 HE1.out (fun b hb => hb.2)).mono ?_
          rintro e w15 ⟨rfl, hb15⟩
          obtain ⟨E, hE⟩ : ∃ E : Int, E = checkI ⟨(m : Int), (K : Int), gs, xs⟩ := ⟨_, rfl⟩
          rw [← hE]
          have HEE := Lib.hid hE
          have HB15 := Lib.hid (bthen HBo.out hb15 HBo.out.size)
          have HR15 := Lib.hid (HRo.out.below hb15 HRo.out.lt)
          have HO15 := Lib.hid (HOo.out.below hb15 HOo.out.lt)
          have HE15 := Lib.hid (HE1.out.below hb15)
          have HF15 := Lib.hid (HE2.out.below hb15)
          have hz15 := hb15.size
          clear o0 o1 o2 o3 zO hb15 hE
          by_cases hE0 : E = 0
          · have HE0 := Lib.hid (show checkI ⟨(m : Int), (K : Int), gs, xs⟩ = 0 by rw [← HEE.out]; exact hE0)
            have hvK := validG_of HE0.out
            have HVK := Lib.hid hvK
            obtain ⟨L2, hL2⟩ := lfix_ex ⟨(m : Int), (K : Int), gs, xs⟩ K hK10 (fun q hq => by have := hvK.rules q hq; dsimp only at this; omega)
            have HL2 := Lib.hid hL2
            subst hE0
            have o0 : w15.cell? ⟨O, 0, none⟩ = some (.int .i64 (m : Int)) := HO15.out.cell 0
            have o1 : w15.cell? ⟨O, 1, none⟩ = some (.int .i64 (K : Int)) := HO15.out.cell 1
            have o2 : w15.cell? ⟨O, 2, none⟩ = some (.int .i64 gs) := HO15.out.cell 2
            have o3 : w15.cell? ⟨O, 3, none⟩ = some (.slice A1 xs.length c1) := HO15.out.cell 3
            have zO : O < w15.heap.size := HO15.out.lt
            clear hvK hL2
            go_wp2_with fail
            refine (rleft_any ⟨(m : Int), (K : Int), gs, xs⟩ m K A1 c1 _ w15 L2 rfl rfl HE0.out q11 q12 HE15.out (fun b hb => by have := hb.2; omega) HL2.out).mono ?_
            rintro e w16 ⟨v, l, rfl, hF, hown, hb16⟩
            obtain ⟨Al, cl, rfl, _, _, _⟩ := hown.form
            have HFl := Lib.hid hF
            have HB16 := Lib.hid (bthen HB15.out hb16 HB15.out.size)
            have HR16 := Lib.hid (HR15.out.below hb16 HR15.out.lt)
            have HO16 := Lib.hid (HO15.out.below hb16 HO15.out.lt)
            have HE16 := Lib.hid (HE15.out.below hb16)
            have HF16 := Lib.hid (HF15.out.below hb16)
            have hz16 := hb16.size
            clear hF hown hb16 o0 o1 o2 o3 zO
            cases l with
            | nil =>
              have hno : ∀ a, ¬ Plus (LedE (strG ⟨(m : Int), (n : Int), gs, rs⟩ n)) a a := by
                rw [HSG.out]
                intro a ha
                exact FiltIs.none K [] HFl.out rfl a (led_lt HVK.out rfl ha) ha
              have HOk : Hid (StrOk ⟨(m : Int), (n : Int), gs, rs⟩ n) := Lib.hid ⟨HNo.out, HKs.out, by rw [HSG.out]; exact HE0.out, hno⟩
              clear hno
              have o0 : w16.cell? ⟨O, 0, none⟩ = some (.int .i64 (m : Int)) := HO16.out.cell 0
              have o1 : w16.cell? ⟨O, 1, none⟩ = some (.int .i64 (K : Int)) := HO16.out.cell 1
              have o2 : w16.cell? ⟨O, 2, none⟩ = some (.int .i64 gs) := HO16.out.cell 2
              have o3 : w16.cell? ⟨O, 3, none⟩ = some (.slice A1 xs.length c1) := HO16.out.cell 3
              have zO : O < w16.heap.size := HO16.out.lt
              have neO : ¬ w.heap.size + 1 = O := by omega
              have r0 : w16.cell? ⟨w.heap.size + 1, 0, none⟩ = some (.int .i64 0) := HR16.out.cell 0
              have r1 : w16.cell? ⟨w.heap.size + 1, 1, none⟩ = some (.int .i64 0) := HR16.out.cell 1
              have r2 : w16.cell? ⟨w.heap.size + 1, 2, none⟩ = some (.int .i64 0) := HR16.out.cell 2
              have r3 : w16.cell? ⟨w.heap.size + 1, 3, none⟩ = some (.slice none 0 0) := HR16.out.cell 3
              have f0 : w16.frozen? ⟨w.heap.size + 1, 0, none⟩ = false := HR16.out.frozen 0
              have f1 : w16.frozen? ⟨w.heap.size + 1, 1, none⟩ = false := HR16.out.frozen 1
              have f2 : w16.frozen? ⟨w.heap.size + 1, 2, none⟩ = false := HR16.out.frozen 2
              have f3 : w16.frozen? ⟨w.heap.size + 1, 3, none⟩ = false := HR16.out.frozen 3
              have zR : w.heap.size + 1 < w16.heap.size := HR16.out.lt
              go_wp2_with fail
              generalize hwF : World.setCell _ _ _ = wF
              have hRF : Blk' wF (w.heap.size + 1) 24 #[.int .i64 (m : Int), .int .i64 (K : Int), .int .i64 gs, .slice A1 xs.length c1] := by rw [← hwF]; exact (((HR16.out.set_ 0 _).set_ 1 _).set_ 2 _).set_ 3 _
              have hK : Kept (fun b => b = w.heap.size + 1) w16 wF := by rw [← hwF]; exact ((((Kept.refl (fun b => b = w.heap.size + 1) w16).setCell (p := ⟨w.heap.size + 1, 0, none⟩) (.inl rfl) _).setCell (p := ⟨w.heap.size + 1, 1, none⟩) (.inl rfl) _).setCell (p := ⟨w.heap.size + 1, 2, none⟩) (.inl rfl) _).setCell (p := ⟨w.heap.size + 1, 3, none⟩) (.inl rfl) _
              have hbF : Below w.heap.size w wF := HB16.out.trans (hK.to_below (fun b (hb : b = w.heap.size + 1) => by omega) HB16.out.size)
              have hks := hK.size
              have hEF := (HE16.out.kept hK (fun b hb (h : b = w.heap.size + 1) => by rcases hb.1 with h1 | h1; exact h1.elim; omega)).keep (S' := fun b => w.heap.size ≤ b ∧ b < wF.heap.size) (fun _ _ _ => rfl) (fun b hb => ⟨by rcases hb.1 with h1 | h1; exact h1.elim; omega, by have := hb.2; omega⟩)
              have hFF := (HF16.out.kept hK (fun b hb (h : b = w.heap.size + 1) => by rcases hb.1 with h1 | h1; exact h1.elim; omega)).keep (S' := fun b => w.heap.size ≤ b ∧ b < wF.heap.size) (fun _ _ _ => rfl) (fun b hb => ⟨by rcases hb.1 with h1 | h1; exact h1.elim; omega, by have := hb.2; omega⟩)
              have u0 : wF.cell? ⟨w.heap.size + 1, 0, none⟩ = some (.int .i64 (m : Int)) := hRF.cell 0
              have u1 : wF.cell? ⟨w.heap.size + 1, 1, none⟩ = some (.int .i64 (K : Int)) := hRF.cell 1
              have u2 : wF.cell? ⟨w.heap.size + 1, 2, none⟩ = some (.int .i64 gs) := hRF.cell 2
              have u3 : wF.cell? ⟨w.heap.size + 1, 3, none⟩ = some (.slice A1 xs.length c1) := hRF.cell 3
              clear hwF
              have hf : RetSt ⟨(m : Int), (n : Int), gs, rs⟩ n w (.returned (.tuple #[.agg #[.int .i64 (m : Int), .int .i64 (K : Int), .int .i64 gs, .slice A1 xs.length c1], .slice A2 fs.length c2, .int .i64 0])) wF := by
                refine .inr ⟨HOk.out, A1, A2, c1, c2, ?_, ?_⟩
                · rw [HSG.out, HFG.out]
                · rw [HSG.out, HFG.out]
                  exact ⟨q11, q12, hEF, q21, q22, hFF, hbF⟩
              exact bodyPost_ret (v := .tuple #[.agg #[.int .i64 (m : Int), .int .i64 (K : Int), .int .i64 gs, .slice A1 xs.length c1], .slice A2 fs.length c2, .int .i64 0]) (by simp [results, Tryd.results9, go_sem, u0, u1, u2, u3]) rfl hf
            | cons x l =>
              have hex : ∃ a, Plus (LedE (strG ⟨(m : Int), (n : Int), gs, rs⟩ n)) a a := by
                rw [HSG.out]
                refine Classical.byContradiction fun hn => ?_
                have := FiltIs.nil K (x :: l) HFl.out (fun j hj => hn ⟨j, hj⟩)
                cases this
              obtain ⟨a, ha⟩ := hex
              have HBd : Hid (StrBad ⟨(m : Int), (n : Int), gs, rs⟩ n 8) := Lib.hid (.led HNo.out HKs.out (by rw [HSG.out]; exact HE0.out) a ha)
              have hl0 : (0 : Int) < ((x :: l).length : Int) := by simp only [List.length_cons]; omega
              clear ha
              have r0 : w16.cell? ⟨w.heap.size + 1, 0, none⟩ = some (.int .i64 0) := HR16.out.cell 0
              have r1 : w16.cell? ⟨w.heap.size + 1, 1, none⟩ = some (.int .i64 0) := HR16.out.cell 1
              have r2 : w16.cell? ⟨w.heap.size + 1, 2, none⟩ = some (.int .i64 0) := HR16.out.cell 2
              have r3 : w16.cell? ⟨w.heap.size + 1, 3, none⟩ = some (.slice none 0 0) := HR16.out.cell 3
              have f0 : w16.frozen? ⟨w.heap.size + 1, 0, none⟩ = false := HR16.out.frozen 0
              have f1 : w16.frozen? ⟨w.heap.size + 1, 1, none⟩ = false := HR16.out.frozen 1
              have f2 : w16.frozen? ⟨w.heap.size + 1, 2, none⟩ = false := HR16.out.frozen 2
              have f3 : w16.frozen? ⟨w.heap.size + 1, 3, none⟩ = false := HR16.out.frozen 3
              have zR : w.heap.size + 1 < w16.heap.size := HR16.out.lt
              go_wp2_with fail
              generalize hwF : World.setCell _ _ _ = wF
              have hRF : Blk' wF (w.heap.size + 1) 24 #[.int .i64 0, .int .i64 0, .int .i64 0, .slice none 0 0] := by rw [← hwF]; exact (((HR16.out.set_ 0 _).set_ 1 _).set_ 2 _).set_ 3 _
              have hbF : Below w.heap.size w wF := by rw [← hwF]; exact (((HB16.out.setCell (p := ⟨w.heap.size + 1, 0, none⟩) (Nat.le_succ _) _).setCell (p := ⟨w.heap.size + 1, 1, none⟩) (Nat.le_succ _) _).setCell (p := ⟨w.heap.size + 1, 2, none⟩) (Nat.le_succ _) _).setCell (p := ⟨w.heap.size + 1, 3, none⟩) (Nat.le_succ _) _
              have u0 : wF.cell? ⟨w.heap.size + 1, 0, none⟩ = some (.int .i64 0) := hRF.cell 0
              have u1 : wF.cell? ⟨w.heap.size + 1, 1, none⟩ = some (.int .i64 0) := hRF.cell 1
              have u2 : wF.cell? ⟨w.heap.size + 1, 2, none⟩ = some (.int .i64 0) := hRF.cell 2
              have u3 : wF.cell? ⟨w.heap.size + 1, 3, none⟩ = some (.slice none 0 0) := hRF.cell 3
              clear hwF
              exact bodyPost_ret (v := .tuple #[.agg #[.int .i64 0, .int .i64 0, .int .i64 0, .slice none 0 0], .slice none 0 0, .int .i64 8]) (by simp [results, Tryd.results9, go_sem, u0, u1, u2, u3]) rfl (.inl ⟨8, HBd.out, rfl, hbF⟩)
          · have e1 : (E != 0) = true := by simp [hE0]
            have HBd : Hid (StrBad ⟨(m : Int), (n : Int), gs, rs⟩ n E) := Lib.hid (by
              have h := StrBad.chk HNo.out HKs.out (by rw [HSG.out, ← HEE.out]; exact hE0)
              rw [HSG.out, ← HEE.out] at h
              exact h)
            clear hE0
            have r0 : w15.cell? ⟨w.heap.size + 1, 0, none⟩ = some (.int .i64 0) := HR15.out.cell 0
            have r1 : w15.cell? ⟨w.heap.size + 1, 1, none⟩ = some (.int .i64 0) := HR15.out.cell 1
            have r2 : w15.cell? ⟨w.heap.size + 1, 2, none⟩ = some (.int .i64 0) := HR15.out.cell 2
            have r3 : w15.cell? ⟨w.heap.size + 1, 3, none⟩ = some (.slice none 0 0) := HR15.out.cell 3
            have f0 : w15.frozen? ⟨w.heap.size + 1, 0, none⟩ = false := HR15.out.frozen 0
            have f1 : w15.frozen? ⟨w.heap.size + 1, 1, none⟩ = false := HR15.out.frozen 1
            have f2 : w15.frozen? ⟨w.heap.size + 1, 2, none⟩ = false := HR15.out.frozen 2
            have f3 : w15.frozen? ⟨w.heap.size + 1, 3, none⟩ = false := HR15.out.frozen 3
            have zR : w.heap.size + 1 < w15.heap.size := HR15.out.lt
            go_wp2_with fail
            generalize hwF : World.setCell _ _ _ = wF
            have hRF : Blk' wF (w.heap.size + 1) 24 #[.int .i64 0, .int .i64 0, .int .i64 0, .slice none 0 0] := by rw [← hwF]; exact (((HR15.out.set_ 0 _).set_ 1 _).set_ 2 _).set_ 3 _
            have hbF : Below w.heap.size w wF := by rw [← hwF]; exact (((HB15.out.setCell (p := ⟨w.heap.size + 1, 0, none⟩) (Nat.le_succ _) _).setCell (p := ⟨w.heap.size + 1, 1, none⟩) (Nat.le_succ _) _).setCell (p := ⟨w.heap.size + 1, 2, none⟩) (Nat.le_succ _) _).setCell (p := ⟨w.heap.size + 1, 3, none⟩) (Nat.le_succ _) _
            have u0 : wF.cell? ⟨w.heap.size + 1, 0, none⟩ = some (.int .i64 0) := hRF.cell 0
            have u1 : wF.cell? ⟨w.heap.size + 1, 1, none⟩ = some (.int .i64 0) := hRF.cell 1
            have u2 : wF.cell? ⟨w.heap.size + 1, 2, none⟩ = some (.int .i64 0) := hRF.cell 2
            have u3 : wF.cell? ⟨w.heap.size + 1, 3, none⟩ = some (.slice none 0 0) := hRF.cell 3
            clear hwF
            exact bodyPost_ret (v := .tuple #[.agg #[.int .i64 0, .int .i64 0, .int .i64 0, .slice none 0 0], .slice none 0 0, .int .i64 E]) (by simp [results, Tryd.results9, go_sem, u0, u1, u2, u3]) rfl (.inl ⟨E, HBd.out, rfl, hbF⟩)
end Go.Proofs.YtagcnhiinmiklaaDoor
